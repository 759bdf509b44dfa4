/- The contracts of bindleref34's functions, and the example. -/
import Derived.Test.YtnphdfaihpljlaaQuick5
import Derived.Test.YtnphdfaihpljlaaCanonR
set_option linter.unusedVariables false
set_option linter.unusedSimpArgs false
set_option maxHeartbeats 4000000
set_option maxRecDepth 20000
namespace Go.Bn
open Go Proofs

theorem tmod2 (n : Int) : n.tmod 2 = if 0 ≤ n ∨ n % 2 = 0 then n % 2 else -1 := by
  rw [Int.tmod_eq_emod]
  by_cases h : 0 ≤ n ∨ n % 2 = 0
  · rw [if_pos h]
    rw [if_pos (by rcases h with h | h; exact .inl h; exact .inr (Int.dvd_of_emod_eq_zero h))]; omega
  · rw [if_neg h, if_neg (by rintro (h1 | h1); exact h (.inl h1); exact h (.inr (Int.emod_eq_zero_of_dvd h1)))]
    have : ((2 : Int).natAbs : Int) = 2 := rfl
    omega
theorem inK_div {n : Int} (hn : inK .i64 n) : ∀ i, inK .i64 (n / 2 ^ i)
  | 0 => by rw [Int.pow_zero, Int.ediv_one]; exact hn
  | i + 1 => by
    have := inK_div hn i
    rw [ediv_succ]
    simp only [inK] at this ⊢
    omega
theorem turn_ref (n many : Int) (h0 : Heap) (hn : inK .i64 n) : Ret Try.prog 34 [.int .i64 n, .int .i64 many] h0 fun v h' => v = .int .i64 (turnI n (wd 15 many) : Nat) ∧ h0 = h' := by
  have hw := wd_le 15 many
  refine ret_of_X Try.func34 rfl rfl fun w0 hw0 => ?_
  simp only [argE, Nat.zero_add, Nat.reduceAdd]
  refine X_seq ?_
  refine X_reg ?_
  refine XR_a (op_assign rfl) rfl rfl ?_
  refine XR_nil ?_
  refine X_seq ?_
  refine X_seq ?_
  refine X_reg ?_
  refine XR_a (op_move rfl) rfl rfl ?_
  refine XR_a (op_gtr rfl rfl) rfl rfl ?_
  refine XR_nil ?_
  refine X_if rfl (fun h => ?_) (fun h => ?_)
  · refine X_reg ?_
    refine XR_a (op_assign rfl) rfl rfl ?_
    refine XR_nil ?_
    refine X_seq ?_
    refine X_reg ?_
    refine XR_a (op_assign rfl) rfl rfl ?_
    refine XR_nil ?_
    refine X_seq ?_
    refine X_seq ?_
    refine X_reg ?_
    refine XR_a (op_assign rfl) rfl rfl ?_
    refine XR_nil ?_
    refine X_block ?_
    obtain ⟨K, hK⟩ : ∃ K : Int, K = 15 := ⟨_, rfl⟩
    have hKw : wd 15 many = K.toNat := by unfold wd; omega
    refine X_loop (fun i => K.toNat - i) (fun i => [(0, .int .i64 (n / 2 ^ i)), (1, .int .i64 K), (5, .int .i64 (turnI n i : Nat)), (6, .int .i64 (i : Nat))])
      (fun (i : Nat) hp => hp = h0 ∧ i ≤ K.toNat)
      0 (.cons (by rw [Int.pow_zero, Int.ediv_one]; rfl) (.cons (by rw [hK]; rfl) (.cons rfl (.cons rfl (.nil _))))) ⟨rfl, by omega⟩ ?_
    have hK15 : K ≤ 15 := by omega
    rintro i hp ⟨rfl, hi⟩
    refine X_seq ?_
    refine X_seq ?_
    refine X_reg ?_
    refine XR_a (op_move rfl) rfl rfl ?_
    refine XR_a (op_move rfl) rfl rfl ?_
    refine XR_a (op_lss rfl rfl) rfl rfl ?_
    refine XR_nil ?_
    refine X_if rfl (fun h => ?_) (fun h => ?_)
    · have hlt := turnI_lt n i
      have hpw : 2 ^ i ≤ 32768 := Nat.pow_le_pow_right (n := 2) (by omega) (show i ≤ 15 by omega)
      have h01 : n / 2 ^ i % 2 = 0 ∨ n / 2 ^ i % 2 = 1 := by omega
      have hts : turnI n (i + 1) = turnI n i * 2 + (n / 2 ^ i % 2).toNat := tval_bit _ _ h01
      have hds := ediv_succ n i
      have hdb : inK .i64 (n / 2 ^ i) := inK_div hn i
      have htm := tmod2 (n / 2 ^ i)
      obtain ⟨x, hx⟩ : ∃ x, n / 2 ^ i = x := ⟨_, rfl⟩
      rw [hx] at hts h01 hds hdb htm ⊢
      simp only [inK] at hdb
      refine X_skip ?_
      refine X_seq ?_
      refine X_block ?_
      refine X_seq ?_
      refine X_reg ?_
      refine XR_a (op_move rfl) rfl rfl ?_
      refine XR_a (op_rem rfl rfl (by decide)) rfl rfl ?_
      refine XR_as (.int .i64 (if 0 ≤ x ∨ x % 2 = 0 then x % 2 else -1)) (by rw [← htm]) ?_
      refine XR_a (op_assign rfl) rfl rfl ?_
      refine XR_nil ?_
      refine X_seq ?_
      refine X_seq ?_
      refine X_reg ?_
      refine XR_a (op_move rfl) rfl rfl ?_
      refine XR_a (op_lss rfl rfl) rfl rfl ?_
      refine XR_nil ?_
      refine X_if rfl (fun h => ?_) (fun h => ?_)
      · refine X_reg ?_
        refine XR_a (op_assign rfl) rfl rfl ?_
        refine XR_nil ?_
        refine X_seq ?_
        obtain ⟨y, hy⟩ : ∃ y : Nat, x % 2 = y := ⟨(x % 2).toNat, by omega⟩
        rw [hy] at hts h01 htm
        rw [Int.toNat_natCast] at hts
        refine X_reg ?_
        refine XR_a (op_move rfl) rfl rfl ?_
        refine XR_a (op_mulN (m := 2) (n := turnI n i) rfl rfl (by simp only [inK]; omega)) rfl rfl ?_
        refine XR_a (op_move rfl) rfl rfl ?_
        refine XR_as (.int .i64 (y : Nat)) (congrArg (Value.int .i64) (by
          have h1 : (if 0 ≤ x ∨ x % 2 = 0 then x % 2 else -1) < 0 := h
          split at h1 <;> rename_i h2 <;> omega)) ?_
        refine XR_a (op_addN (m := 2 * turnI n i) (n := y) rfl rfl (by simp only [inK]; omega)) rfl rfl ?_
        refine XR_as (.int .i64 (turnI n (i + 1) : Nat)) (congrArg (fun z : Nat => Value.int .i64 (z : Int)) (by omega)) ?_
        refine XR_a (op_assign rfl) rfl rfl ?_
        refine XR_nil ?_
        refine X_reg ?_
        refine XR_a (op_move rfl) rfl rfl ?_
        refine XR_a (op_move rfl) rfl rfl ?_
        refine XR_as (.int .i64 (y : Nat)) (congrArg (Value.int .i64) (by
          have h1 : (if 0 ≤ x ∨ x % 2 = 0 then x % 2 else -1) < 0 := h
          split at h1 <;> rename_i h2 <;> omega)) ?_
        refine XR_a (op_subI rfl rfl (by simp only [inK]; omega)) rfl rfl ?_
        refine XR_a (op_quo rfl rfl (by decide)) rfl rfl ?_
        refine XR_as (.int .i64 (n / 2 ^ (i + 1))) (by
          have e : (x - (y : Int)) = 2 * (x / 2) := by omega
          rw [hds, e, Int.mul_tdiv_cancel_left _ (by decide), wrap_in (show inK .i64 (x / 2) by simp only [inK]; omega)]) ?_
        refine XR_a (op_assign rfl) rfl rfl ?_
        refine XR_nil ?_
        refine X_blk ?_
        refine X_reg ?_
        refine XR_a (op_move rfl) rfl rfl ?_
        first | refine XR_a (op_addN (n := 1) rfl rfl (by simp only [inK]; omega)) rfl rfl ?_ | refine XR_a (op_addI rfl rfl (by simp only [inK]; omega)) rfl rfl ?_ | refine XR_a (op_add rfl rfl) rfl rfl ?_
        refine XR_a (op_assign rfl) rfl rfl ?_
        refine XR_nil ?_
        exact X_again (i + 1) (.cons rfl (.cons rfl (.cons rfl (.cons rfl (.nil _))))) ⟨rfl, by omega⟩ (by omega)
      · refine X_skip ?_
        refine X_seq ?_
        obtain ⟨y, hy⟩ : ∃ y : Nat, x % 2 = y := ⟨(x % 2).toNat, by omega⟩
        rw [hy] at hts h01 htm
        rw [Int.toNat_natCast] at hts
        refine X_reg ?_
        refine XR_a (op_move rfl) rfl rfl ?_
        refine XR_a (op_mulN (m := 2) (n := turnI n i) rfl rfl (by simp only [inK]; omega)) rfl rfl ?_
        refine XR_a (op_move rfl) rfl rfl ?_
        refine XR_as (.int .i64 (y : Nat)) (congrArg (Value.int .i64) (by
          have h1 : ¬ (if 0 ≤ x ∨ x % 2 = 0 then x % 2 else -1) < 0 := h
          split at h1 <;> rename_i h2
          · rw [if_pos h2]; exact hy
          · omega)) ?_
        refine XR_a (op_addN (m := 2 * turnI n i) (n := y) rfl rfl (by simp only [inK]; omega)) rfl rfl ?_
        refine XR_as (.int .i64 (turnI n (i + 1) : Nat)) (congrArg (fun z : Nat => Value.int .i64 (z : Int)) (by omega)) ?_
        refine XR_a (op_assign rfl) rfl rfl ?_
        refine XR_nil ?_
        refine X_reg ?_
        refine XR_a (op_move rfl) rfl rfl ?_
        refine XR_a (op_move rfl) rfl rfl ?_
        refine XR_as (.int .i64 (y : Nat)) (congrArg (Value.int .i64) (by
          have h1 : ¬ (if 0 ≤ x ∨ x % 2 = 0 then x % 2 else -1) < 0 := h
          split at h1 <;> rename_i h2
          · rw [if_pos h2]; exact hy
          · omega)) ?_
        refine XR_a (op_subI rfl rfl (by simp only [inK]; omega)) rfl rfl ?_
        refine XR_a (op_quo rfl rfl (by decide)) rfl rfl ?_
        refine XR_as (.int .i64 (n / 2 ^ (i + 1))) (by
          have e : (x - (y : Int)) = 2 * (x / 2) := by omega
          rw [hds, e, Int.mul_tdiv_cancel_left _ (by decide), wrap_in (show inK .i64 (x / 2) by simp only [inK]; omega)]) ?_
        refine XR_a (op_assign rfl) rfl rfl ?_
        refine XR_nil ?_
        refine X_blk ?_
        refine X_reg ?_
        refine XR_a (op_move rfl) rfl rfl ?_
        first | refine XR_a (op_addN (n := 1) rfl rfl (by simp only [inK]; omega)) rfl rfl ?_ | refine XR_a (op_addI rfl rfl (by simp only [inK]; omega)) rfl rfl ?_ | refine XR_a (op_add rfl rfl) rfl rfl ?_
        refine XR_a (op_assign rfl) rfl rfl ?_
        refine XR_nil ?_
        exact X_again (i + 1) (.cons rfl (.cons rfl (.cons rfl (.cons rfl (.nil _))))) ⟨rfl, by omega⟩ (by omega)
    · refine X_exit rfl ?_
      refine X_seq ?_
      refine X_reg ?_
      refine XR_a (op_move rfl) rfl rfl ?_
      refine XR_a (op_assign rfl) rfl rfl ?_
      refine XR_nil ?_
      refine X_ret (.cons (.tmp rfl) .nil) ?_
      obtain rfl : i = K.toNat := by omega
      rw [hKw]
      exact ⟨rfl, rfl⟩
  · refine X_skip ?_
    refine X_seq ?_
    refine X_reg ?_
    refine XR_a (op_assign rfl) rfl rfl ?_
    refine XR_nil ?_
    refine X_seq ?_
    refine X_seq ?_
    refine X_reg ?_
    refine XR_a (op_assign rfl) rfl rfl ?_
    refine XR_nil ?_
    refine X_block ?_
    obtain ⟨K, hK⟩ : ∃ K : Int, K = many := ⟨_, rfl⟩
    have hKw : wd 15 many = K.toNat := by unfold wd; omega
    refine X_loop (fun i => K.toNat - i) (fun i => [(0, .int .i64 (n / 2 ^ i)), (1, .int .i64 K), (5, .int .i64 (turnI n i : Nat)), (6, .int .i64 (i : Nat))])
      (fun (i : Nat) hp => hp = h0 ∧ i ≤ K.toNat)
      0 (.cons (by rw [Int.pow_zero, Int.ediv_one]; rfl) (.cons (by rw [hK]; rfl) (.cons rfl (.cons rfl (.nil _))))) ⟨rfl, by omega⟩ ?_
    have hK15 : K ≤ 15 := by omega
    rintro i hp ⟨rfl, hi⟩
    refine X_seq ?_
    refine X_seq ?_
    refine X_reg ?_
    refine XR_a (op_move rfl) rfl rfl ?_
    refine XR_a (op_move rfl) rfl rfl ?_
    refine XR_a (op_lss rfl rfl) rfl rfl ?_
    refine XR_nil ?_
    refine X_if rfl (fun h => ?_) (fun h => ?_)
    · have hlt := turnI_lt n i
      have hpw : 2 ^ i ≤ 32768 := Nat.pow_le_pow_right (n := 2) (by omega) (show i ≤ 15 by omega)
      have h01 : n / 2 ^ i % 2 = 0 ∨ n / 2 ^ i % 2 = 1 := by omega
      have hts : turnI n (i + 1) = turnI n i * 2 + (n / 2 ^ i % 2).toNat := tval_bit _ _ h01
      have hds := ediv_succ n i
      have hdb : inK .i64 (n / 2 ^ i) := inK_div hn i
      have htm := tmod2 (n / 2 ^ i)
      obtain ⟨x, hx⟩ : ∃ x, n / 2 ^ i = x := ⟨_, rfl⟩
      rw [hx] at hts h01 hds hdb htm ⊢
      simp only [inK] at hdb
      refine X_skip ?_
      refine X_seq ?_
      refine X_block ?_
      refine X_seq ?_
      refine X_reg ?_
      refine XR_a (op_move rfl) rfl rfl ?_
      refine XR_a (op_rem rfl rfl (by decide)) rfl rfl ?_
      refine XR_as (.int .i64 (if 0 ≤ x ∨ x % 2 = 0 then x % 2 else -1)) (by rw [← htm]) ?_
      refine XR_a (op_assign rfl) rfl rfl ?_
      refine XR_nil ?_
      refine X_seq ?_
      refine X_seq ?_
      refine X_reg ?_
      refine XR_a (op_move rfl) rfl rfl ?_
      refine XR_a (op_lss rfl rfl) rfl rfl ?_
      refine XR_nil ?_
      refine X_if rfl (fun h => ?_) (fun h => ?_)
      · refine X_reg ?_
        refine XR_a (op_assign rfl) rfl rfl ?_
        refine XR_nil ?_
        refine X_seq ?_
        obtain ⟨y, hy⟩ : ∃ y : Nat, x % 2 = y := ⟨(x % 2).toNat, by omega⟩
        rw [hy] at hts h01 htm
        rw [Int.toNat_natCast] at hts
        refine X_reg ?_
        refine XR_a (op_move rfl) rfl rfl ?_
        refine XR_a (op_mulN (m := 2) (n := turnI n i) rfl rfl (by simp only [inK]; omega)) rfl rfl ?_
        refine XR_a (op_move rfl) rfl rfl ?_
        refine XR_as (.int .i64 (y : Nat)) (congrArg (Value.int .i64) (by
          have h1 : (if 0 ≤ x ∨ x % 2 = 0 then x % 2 else -1) < 0 := h
          split at h1 <;> rename_i h2 <;> omega)) ?_
        refine XR_a (op_addN (m := 2 * turnI n i) (n := y) rfl rfl (by simp only [inK]; omega)) rfl rfl ?_
        refine XR_as (.int .i64 (turnI n (i + 1) : Nat)) (congrArg (fun z : Nat => Value.int .i64 (z : Int)) (by omega)) ?_
        refine XR_a (op_assign rfl) rfl rfl ?_
        refine XR_nil ?_
        refine X_reg ?_
        refine XR_a (op_move rfl) rfl rfl ?_
        refine XR_a (op_move rfl) rfl rfl ?_
        refine XR_as (.int .i64 (y : Nat)) (congrArg (Value.int .i64) (by
          have h1 : (if 0 ≤ x ∨ x % 2 = 0 then x % 2 else -1) < 0 := h
          split at h1 <;> rename_i h2 <;> omega)) ?_
        refine XR_a (op_subI rfl rfl (by simp only [inK]; omega)) rfl rfl ?_
        refine XR_a (op_quo rfl rfl (by decide)) rfl rfl ?_
        refine XR_as (.int .i64 (n / 2 ^ (i + 1))) (by
          have e : (x - (y : Int)) = 2 * (x / 2) := by omega
          rw [hds, e, Int.mul_tdiv_cancel_left _ (by decide), wrap_in (show inK .i64 (x / 2) by simp only [inK]; omega)]) ?_
        refine XR_a (op_assign rfl) rfl rfl ?_
        refine XR_nil ?_
        refine X_blk ?_
        refine X_reg ?_
        refine XR_a (op_move rfl) rfl rfl ?_
        first | refine XR_a (op_addN (n := 1) rfl rfl (by simp only [inK]; omega)) rfl rfl ?_ | refine XR_a (op_addI rfl rfl (by simp only [inK]; omega)) rfl rfl ?_ | refine XR_a (op_add rfl rfl) rfl rfl ?_
        refine XR_a (op_assign rfl) rfl rfl ?_
        refine XR_nil ?_
        exact X_again (i + 1) (.cons rfl (.cons rfl (.cons rfl (.cons rfl (.nil _))))) ⟨rfl, by omega⟩ (by omega)
      · refine X_skip ?_
        refine X_seq ?_
        obtain ⟨y, hy⟩ : ∃ y : Nat, x % 2 = y := ⟨(x % 2).toNat, by omega⟩
        rw [hy] at hts h01 htm
        rw [Int.toNat_natCast] at hts
        refine X_reg ?_
        refine XR_a (op_move rfl) rfl rfl ?_
        refine XR_a (op_mulN (m := 2) (n := turnI n i) rfl rfl (by simp only [inK]; omega)) rfl rfl ?_
        refine XR_a (op_move rfl) rfl rfl ?_
        refine XR_as (.int .i64 (y : Nat)) (congrArg (Value.int .i64) (by
          have h1 : ¬ (if 0 ≤ x ∨ x % 2 = 0 then x % 2 else -1) < 0 := h
          split at h1 <;> rename_i h2
          · rw [if_pos h2]; exact hy
          · omega)) ?_
        refine XR_a (op_addN (m := 2 * turnI n i) (n := y) rfl rfl (by simp only [inK]; omega)) rfl rfl ?_
        refine XR_as (.int .i64 (turnI n (i + 1) : Nat)) (congrArg (fun z : Nat => Value.int .i64 (z : Int)) (by omega)) ?_
        refine XR_a (op_assign rfl) rfl rfl ?_
        refine XR_nil ?_
        refine X_reg ?_
        refine XR_a (op_move rfl) rfl rfl ?_
        refine XR_a (op_move rfl) rfl rfl ?_
        refine XR_as (.int .i64 (y : Nat)) (congrArg (Value.int .i64) (by
          have h1 : ¬ (if 0 ≤ x ∨ x % 2 = 0 then x % 2 else -1) < 0 := h
          split at h1 <;> rename_i h2
          · rw [if_pos h2]; exact hy
          · omega)) ?_
        refine XR_a (op_subI rfl rfl (by simp only [inK]; omega)) rfl rfl ?_
        refine XR_a (op_quo rfl rfl (by decide)) rfl rfl ?_
        refine XR_as (.int .i64 (n / 2 ^ (i + 1))) (by
          have e : (x - (y : Int)) = 2 * (x / 2) := by omega
          rw [hds, e, Int.mul_tdiv_cancel_left _ (by decide), wrap_in (show inK .i64 (x / 2) by simp only [inK]; omega)]) ?_
        refine XR_a (op_assign rfl) rfl rfl ?_
        refine XR_nil ?_
        refine X_blk ?_
        refine X_reg ?_
        refine XR_a (op_move rfl) rfl rfl ?_
        first | refine XR_a (op_addN (n := 1) rfl rfl (by simp only [inK]; omega)) rfl rfl ?_ | refine XR_a (op_addI rfl rfl (by simp only [inK]; omega)) rfl rfl ?_ | refine XR_a (op_add rfl rfl) rfl rfl ?_
        refine XR_a (op_assign rfl) rfl rfl ?_
        refine XR_nil ?_
        exact X_again (i + 1) (.cons rfl (.cons rfl (.cons rfl (.cons rfl (.nil _))))) ⟨rfl, by omega⟩ (by omega)
    · refine X_exit rfl ?_
      refine X_seq ?_
      refine X_reg ?_
      refine XR_a (op_move rfl) rfl rfl ?_
      refine XR_a (op_assign rfl) rfl rfl ?_
      refine XR_nil ?_
      refine X_ret (.cons (.tmp rfl) .nil) ?_
      obtain rfl : i = K.toNat := by omega
      rw [hKw]
      exact ⟨rfl, rfl⟩

theorem width_ref (n : Int) (h0 : Heap) : Ret Try.prog 37 [.int .i64 n] h0 fun v h' => v = .int .i64 (widthN n : Nat) ∧ h0 = h' := by
  refine ret_of_X Try.func37 rfl rfl fun w0 hw0 => ?_
  simp only [argE, Nat.zero_add, Nat.reduceAdd]
  refine X_seq ?_
  refine X_reg ?_
  refine XR_a (op_assign rfl) rfl rfl ?_
  refine XR_nil ?_
  refine X_seq ?_
  refine X_seq ?_
  refine X_reg ?_
  refine XR_a (op_move rfl) rfl rfl ?_
  refine XR_a (op_lss rfl rfl) rfl rfl ?_
  refine XR_nil ?_
  refine X_if rfl (fun h => ?_) (fun h => ?_)
  · refine X_seq ?_
    refine X_reg ?_
    refine XR_a (op_assign rfl) rfl rfl ?_
    refine XR_nil ?_
    refine X_ret (.cons (.tmp rfl) .nil) ?_
    exact ⟨congrArg (Value.int .i64) (by unfold widthN cutI; omega), rfl⟩
  · refine X_skip ?_
    refine X_seq ?_
    refine X_seq ?_
    refine X_reg ?_
    refine XR_a (op_move rfl) rfl rfl ?_
    refine XR_a (op_gtr rfl rfl) rfl rfl ?_
    refine XR_nil ?_
    refine X_if rfl (fun h => ?_) (fun h => ?_)
    · refine X_seq ?_
      refine X_reg ?_
      refine XR_a (op_assign rfl) rfl rfl ?_
      refine XR_nil ?_
      refine X_ret (.cons (.tmp rfl) .nil) ?_
      exact ⟨congrArg (Value.int .i64) (by unfold widthN cutI; omega), rfl⟩
    · refine X_skip ?_
      refine X_seq ?_
      refine X_reg ?_
      refine XR_a (op_move rfl) rfl rfl ?_
      refine XR_a (op_assign rfl) rfl rfl ?_
      refine XR_nil ?_
      refine X_ret (.cons (.tmp rfl) .nil) ?_
      exact ⟨congrArg (Value.int .i64) (by unfold widthN cutI; omega), rfl⟩

theorem row34_ref {x w : Nat} {h0 : Heap} (hx : x ≤ 1099511627776) (hw : w ≤ 1048576) :
    Ret Try.prog 76 [.int .i64 (x : Int), .int .i64 (w : Int)] h0 fun v h' => St h0.size h0 h' [row 5 1 v ((b01 (bitsN w x)).map byteV)] := by
  refine ret_of_X Try.func76 rfl rfl fun w0 hw0 => ?_
  simp only [argE, Nat.zero_add, Nat.reduceAdd]
  have st := St.start h0
  refine X_seq ?_
  refine X_reg ?_
  refine XR_a (op_assign rfl) rfl rfl ?_
  refine XR_nil ?_
  refine X_seq ?_
  refine X_reg ?_
  refine XR_a (op_assign rfl) rfl rfl ?_
  refine XR_nil ?_
  refine X_seq ?_
  refine X_seq ?_
  refine X_reg ?_
  refine XR_a (op_assign rfl) rfl rfl ?_
  refine XR_nil ?_
  refine X_block ?_
  replace st := st.nilrow 5 1
  refine X_loop (fun s => w - s.1) (fun s => [(0, .int .i64 (x / 2 ^ s.1 : Nat)), (1, .int .i64 (w : Int)), (5, s.2), (6, .int .i64 (s.1 : Nat))])
    (fun (s : Nat × Value) hp => St h0.size h0 hp [row 5 1 s.2 ((b01 (bitsN s.1 x)).map byteV)] ∧ s.1 ≤ w)
    (0, .slice none 0 0) (.cons (by rw [Nat.pow_zero, Nat.div_one]; rfl) (.cons rfl (.cons rfl (.cons rfl (.nil _))))) ⟨st, by simp⟩ ?_
  clear st
  rintro ⟨i, u⟩ hp ⟨st, hi⟩
  simp only at st hi ⊢
  refine X_seq ?_
  refine X_seq ?_
  refine X_reg ?_
  refine XR_a (op_move rfl) rfl rfl ?_
  refine XR_a (op_move rfl) rfl rfl ?_
  refine XR_a (op_lss rfl rfl) rfl rfl ?_
  refine XR_nil ?_
  refine X_if rfl (fun h => ?_) (fun h => ?_)
  · have hdl : x / 2 ^ i ≤ 1099511627776 := Nat.le_trans (Nat.div_le_self _ _) hx
    have hcc := bitsN_snoc i x
    have hdd : x / 2 ^ (i + 1) = x / 2 ^ i / 2 := by rw [Nat.pow_succ, Nat.div_div_eq_div_mul]
    obtain ⟨y, hy⟩ : ∃ y, x / 2 ^ i = y := ⟨_, rfl⟩
    rw [hy] at hdl hcc hdd ⊢
    have hyb := byte_bit y
    have hcl := bitsN_length i x
    refine X_skip ?_
    refine X_seq ?_
    refine X_block ?_
    refine X_seq ?_
    refine X_reg ?_
    refine XR_a (op_move rfl) rfl rfl ?_
    refine XR_a (op_move rfl) rfl rfl ?_
    first | refine XR_a (op_remN (n := 2) rfl rfl (by omega)) rfl rfl ?_ | refine XR_a (op_remI rfl rfl (by omega) (by omega)) rfl rfl ?_ | refine XR_a (op_rem rfl rfl (by omega)) rfl rfl ?_
    first | refine XR_a (op_convI rfl rfl (by simp only [inK]; omega)) rfl rfl ?_ | refine XR_a (op_convU rfl rfl rfl) rfl rfl ?_ | refine XR_a (op_conv rfl rfl) rfl rfl ?_
    refine XR_as (byteV (if (y % 2 == 1) = true then 1 else 0)) hyb ?_
    refine XR_wa (opl_var1 rfl rfl rfl) rfl rfl rfl ?_
    rintro _ hp ⟨A, rfl, hx, hrd⟩
    have st := st.ext hx
    refine XR_wa (opl_append st 0 rfl (hrd) (rfl) (by simp [Value.one, byteV]) (by simp [b01_length]; omega) rfl rfl rfl rfl rfl rfl rfl) rfl rfl rfl fun v hp st => ?_
    simp only [List.set_cons_zero, List.set_cons_succ] at st
    have e : (b01 (bitsN i x)).map byteV ++ [byteV (if (y % 2 == 1) = true then 1 else 0)] = (b01 (bitsN (i + 1) x)).map byteV := by rw [hcc, b01_append, List.map_append]; rfl
    rw [e] at st
    refine XR_a (op_assign rfl) rfl rfl ?_
    refine XR_nil ?_
    refine X_reg ?_
    refine XR_a (op_move rfl) rfl rfl ?_
    first | refine XR_a (op_quoN (n := 2) rfl rfl (by omega) (by simp only [inK]; omega)) rfl rfl ?_ | refine XR_a (op_quoI rfl rfl (by omega) (by omega) (by simp only [inK]; omega)) rfl rfl ?_ | refine XR_a (op_quo rfl rfl (by omega)) rfl rfl ?_
    refine XR_a (op_assign rfl) rfl rfl ?_
    refine XR_nil ?_
    refine X_blk ?_
    refine X_reg ?_
    refine XR_a (op_move rfl) rfl rfl ?_
    first | refine XR_a (op_addN (n := 1) rfl rfl (by simp only [inK]; omega)) rfl rfl ?_ | refine XR_a (op_addI rfl rfl (by simp only [inK]; omega)) rfl rfl ?_ | refine XR_a (op_add rfl rfl) rfl rfl ?_
    refine XR_a (op_assign rfl) rfl rfl ?_
    refine XR_nil ?_
    exact X_again (i + 1, _) (.cons (by rw [hdd]; rfl) (.cons rfl (.cons rfl (.cons rfl (.nil _))))) ⟨st, by simp only; omega⟩ (by simp only; omega)
  · refine X_exit rfl ?_
    refine X_seq ?_
    refine X_reg ?_
    refine XR_a (op_move rfl) rfl rfl ?_
    refine XR_a (op_assign rfl) rfl rfl ?_
    refine XR_nil ?_
    refine X_ret (.cons (.tmp rfl) .nil) ?_
    obtain rfl : i = w := by omega
    exact st

/-- Do both begin alike, as far as both go? -/
def beginsB (a b : List Bool) : Bool := a.take b.length == b.take a.length
theorem b01_inj {x y : Bool} (h : (if x = true then (1 : UInt8) else 0) = if y = true then 1 else 0) : x = y := by
  cases x <;> cases y <;> first | rfl | (revert h; decide)
theorem begins_ref {n m c d : Nat} {A B : Option Addr} {a b : List Bool} {h0 : Heap} (hr : Rd h0 A ((b01 a).map byteV)) (hl : a.length = n) (hs : Rd h0 B ((b01 b).map byteV)) (hm : b.length = m) (hn : n ≤ 1099511627776) :
    Ret Try.prog 77 [.slice A n c, .slice B m d] h0 fun v h' => v = .bool (beginsB a b) ∧ h0 = h' := by
  refine ret_of_X Try.func77 rfl rfl fun w0 hw0 => ?_
  simp only [argE, Nat.zero_add, Nat.reduceAdd]
  refine X_seq ?_
  refine X_reg ?_
  refine XR_a (op_assign rfl) rfl rfl ?_
  refine XR_nil ?_
  refine X_seq ?_
  refine X_seq ?_
  refine X_reg ?_
  refine XR_a (op_assign rfl) rfl rfl ?_
  refine XR_nil ?_
  refine X_block ?_
  refine X_loop (fun i => n - i) (fun i => [(0, .slice A n c), (1, .slice B m d), (5, .int .i64 (i : Int))])
    (fun (i : Nat) hp => hp = h0 ∧ i ≤ n ∧ i ≤ m ∧ a.take i = b.take i)
    0 (.cons rfl (.cons rfl (.cons rfl (.nil _)))) ⟨rfl, by omega, by omega, by simp⟩ ?_
  rintro i hp ⟨rfl, hi, hi2, heq⟩
  refine X_seq ?_
  refine X_seq ?_
  refine X_reg ?_
  refine XR_a (op_move rfl) rfl rfl ?_
  refine XR_a (op_move rfl) rfl rfl ?_
  refine XR_a (op_len rfl rfl rfl) rfl rfl ?_
  refine XR_a (op_lss rfl rfl) rfl rfl ?_
  refine XR_a (op_move rfl) rfl rfl ?_
  refine XR_if 10 rfl (fun h => ?_) (fun h => ?_)
  · refine XR_a (op_move rfl) rfl rfl ?_
    refine XR_a (op_move rfl) rfl rfl ?_
    refine XR_a (op_len rfl rfl rfl) rfl rfl ?_
    refine XR_a (op_lss rfl rfl) rfl rfl ?_
    refine XR_a (op_pick_t rfl rfl) rfl rfl ?_
    refine XR_nil ?_
    refine X_if rfl (fun h => ?_) (fun h => ?_)
    · have hla : i < a.length := by omega
      have hlb : i < b.length := by omega
      obtain ⟨g, o, rfl, hc⟩ := hr.at_ (by rw [List.length_map, b01_length]; omega)
      obtain ⟨g2, o2, rfl, hc2⟩ := hs.at_ (by rw [List.length_map, b01_length]; omega)
      have hci := hc i (byteV (if a[i] = true then 1 else 0)) (by simp [b01, hla])
      have hci2 := hc2 i (byteV (if b[i] = true then 1 else 0)) (by simp [b01, hlb])
      refine X_skip ?_
      refine X_seq ?_
      refine X_block ?_
      refine X_seq ?_
      refine X_draw byKind (by kernel_rfl) (by kernel_rfl) ?_
      refine XR_a (op_move rfl) rfl rfl ?_
      refine XR_a (op_move rfl) rfl rfl ?_
      first | refine XR_a (op_index1 rfl rfl rfl (by omega)) rfl rfl ?_ | refine XR_a (op_index rfl rfl rfl (by omega)) rfl rfl ?_
      refine XR_a (op_ld (hci) rfl rfl rfl) rfl rfl ?_
      refine XR_a (op_move rfl) rfl rfl ?_
      refine XR_a (op_move rfl) rfl rfl ?_
      first | refine XR_a (op_index1 rfl rfl rfl (by omega)) rfl rfl ?_ | refine XR_a (op_index rfl rfl rfl (by omega)) rfl rfl ?_
      refine XR_a (op_ld (hci2) rfl rfl rfl) rfl rfl ?_
      refine XR_a (op_neq rfl rfl) rfl rfl ?_
      refine XR_nil ?_
      refine X_if rfl (fun h => ?_) (fun h => ?_)
      · refine X_seq ?_
        refine X_reg ?_
        refine XR_a (op_assign rfl) rfl rfl ?_
        refine XR_nil ?_
        refine X_ret (.cons (.tmp rfl) .nil) ?_
        refine ⟨congrArg Value.bool (Eq.symm ?_), rfl⟩
        unfold beginsB
        rw [beq_eq_false_iff_ne]
        intro hh
        have h1 := congrArg (fun l => l[i]?) hh
        simp only [List.getElem?_take, if_pos (show i < b.length by omega), if_pos (show i < a.length by omega), List.getElem?_eq_getElem hla, List.getElem?_eq_getElem hlb] at h1
        rw [Option.some.inj h1] at h
        exact h rfl
      · refine X_skip ?_
        refine X_blk ?_
        refine X_reg ?_
        refine XR_a (op_move rfl) rfl rfl ?_
        first | refine XR_a (op_addN (n := 1) rfl rfl (by simp only [inK]; omega)) rfl rfl ?_ | refine XR_a (op_addI rfl rfl (by simp only [inK]; omega)) rfl rfl ?_ | refine XR_a (op_add rfl rfl) rfl rfl ?_
        refine XR_a (op_assign rfl) rfl rfl ?_
        refine XR_nil ?_
        refine X_again (i + 1) (.cons rfl (.cons rfl (.cons rfl (.nil _)))) ⟨rfl, by omega, by omega, ?_⟩ (by omega)
        have h1 : a[i] = b[i] := by
          have h2 := Decidable.not_not.1 h
          refine b01_inj ?_
          have h3 : (if a[i] = true then (1 : UInt8) else 0).toNat = (if b[i] = true then (1 : UInt8) else 0).toNat := Int.ofNat.inj h2
          exact UInt8.toNat_inj.1 h3
        rw [List.take_succ_eq_append_getElem hla, List.take_succ_eq_append_getElem hlb, heq, h1]
    · refine X_exit rfl ?_
      refine X_seq ?_
      have hfin : beginsB a b = true := by
        unfold beginsB
        rw [beq_iff_eq]
        rcases Nat.le_total n m with h1 | h1
        · obtain rfl : i = n := by omega
          rw [List.take_of_length_le (by omega), hl, ← heq, List.take_of_length_le (by omega)]
        · obtain rfl : i = m := by omega
          rw [hm, List.take_of_length_le (l := b) (by omega), heq, List.take_of_length_le (by omega)]
      refine X_reg ?_
      refine XR_a (op_assign rfl) rfl rfl ?_
      refine XR_nil ?_
      refine X_ret (.cons (.tmp rfl) .nil) ?_
      exact ⟨by rw [hfin]; rfl, rfl⟩
  · refine XR_no rfl rfl ?_
    refine XR_no rfl rfl ?_
    refine XR_no rfl rfl ?_
    refine XR_no rfl rfl ?_
    refine XR_a (op_pick_f rfl rfl) rfl rfl ?_
    refine XR_nil ?_
    refine X_else rfl ?_
    refine X_exit rfl ?_
    refine X_seq ?_
    have hfin : beginsB a b = true := by
      unfold beginsB
      rw [beq_iff_eq]
      rcases Nat.le_total n m with h1 | h1
      · obtain rfl : i = n := by omega
        rw [List.take_of_length_le (by omega), hl, ← heq, List.take_of_length_le (by omega)]
      · obtain rfl : i = m := by omega
        rw [hm, List.take_of_length_le (l := b) (by omega), heq, List.take_of_length_le (by omega)]
    refine X_reg ?_
    refine XR_a (op_assign rfl) rfl rfl ?_
    refine XR_nil ?_
    refine X_ret (.cons (.tmp rfl) .nil) ?_
    exact ⟨by rw [hfin]; rfl, rfl⟩
end Go.Bn
