/- The contracts of runs' functions that take. -/
import Derived.Test.YtdiglnhhmbhhjaaRefTake
import Derived.Test.YtdiglnhhmbhhjaaPRuns
import Derived.Test.YtdiglnhhmbhhjaaOpsM
import Derived.Test.YtdiglnhhmbhhjaaFlat
import Derived.Test.YtdiglnhhmbhhjaaEqF
set_option linter.unusedVariables false
set_option linter.unusedSimpArgs false
set_option maxHeartbeats 4000000
set_option maxRecDepth 20000
namespace Go.Bn
open Go Proofs

theorem bounds_spec (s : Nat) (h0 : Heap) : Ret Try.prog 90 [nV s] h0 fun v h' => v = retVal [nV (rL s), nV (rH s), nV (rW s)] ∧ h0 = h' := by
  refine ret_of_X Try.func90 rfl rfl fun w0 hw0 => ?_
  simp only [argE, Nat.zero_add, Nat.reduceAdd]
  refine X_seq ?_
  refine X_reg ?_
  refine XR_a (op_assign rfl) rfl rfl ?_
  refine XR_a (op_assign rfl) rfl rfl ?_
  refine XR_a (op_assign rfl) rfl rfl ?_
  refine XR_nil ?_
  refine X_seq ?_
  refine X_seq ?_
  refine X_reg ?_
  refine XR_a (op_move rfl) rfl rfl ?_
  refine XR_nil ?_
  refine X_block ?_
  refine X_seq ?_
  refine X_reg ?_
  refine XR_a (op_eql rfl rfl) rfl rfl ?_
  refine XR_a (op_assign rfl) rfl rfl ?_
  refine XR_nil ?_
  refine X_if rfl (fun h => ?_) (fun h => ?_)
  · refine X_seq ?_
    refine X_reg ?_
    refine XR_a (op_assign rfl) rfl rfl ?_
    refine XR_a (op_assign rfl) rfl rfl ?_
    refine XR_a (op_assign rfl) rfl rfl ?_
    refine XR_nil ?_
    refine X_ret (.cons (.tmp rfl) (.cons (.tmp rfl) (.cons (.tmp rfl) .nil))) ?_
    obtain rfl : s = 16 := by omega
    exact ⟨rfl, rfl⟩
  · refine X_seq ?_
    refine X_reg ?_
    refine XR_a (op_eql rfl rfl) rfl rfl ?_
    refine XR_a (op_assign rfl) rfl rfl ?_
    refine XR_nil ?_
    refine X_if rfl (fun h => ?_) (fun h => ?_)
    · refine X_seq ?_
      refine X_reg ?_
      refine XR_a (op_assign rfl) rfl rfl ?_
      refine XR_a (op_assign rfl) rfl rfl ?_
      refine XR_a (op_assign rfl) rfl rfl ?_
      refine XR_nil ?_
      refine X_ret (.cons (.tmp rfl) (.cons (.tmp rfl) (.cons (.tmp rfl) .nil))) ?_
      obtain rfl : s = 17 := by omega
      exact ⟨rfl, rfl⟩
    · refine X_seq ?_
      refine X_reg ?_
      refine XR_a (op_eql rfl rfl) rfl rfl ?_
      refine XR_a (op_assign rfl) rfl rfl ?_
      refine XR_nil ?_
      refine X_if rfl (fun h => ?_) (fun h => ?_)
      · refine X_seq ?_
        refine X_reg ?_
        refine XR_a (op_assign rfl) rfl rfl ?_
        refine XR_a (op_assign rfl) rfl rfl ?_
        refine XR_a (op_assign rfl) rfl rfl ?_
        refine XR_nil ?_
        refine X_ret (.cons (.tmp rfl) (.cons (.tmp rfl) (.cons (.tmp rfl) .nil))) ?_
        obtain rfl : s = 18 := by omega
        exact ⟨rfl, rfl⟩
      · refine X_skip ?_
        refine X_blk ?_
        refine X_seq ?_
        refine X_reg ?_
        refine XR_a (op_assign rfl) rfl rfl ?_
        refine XR_a (op_assign rfl) rfl rfl ?_
        refine XR_a (op_assign rfl) rfl rfl ?_
        refine XR_nil ?_
        refine X_ret (.cons (.tmp rfl) (.cons (.tmp rfl) (.cons (.tmp rfl) .nil))) ?_
        unfold rL rH rW
        simp only [if_neg (show ¬ s = 16 by omega), if_neg (show ¬ s = 17 by omega), if_neg (show ¬ s = 18 by omega)]
        exact ⟨rfl, trivial⟩
theorem extra_ref (s : Nat) (h0 : Heap) : Ret Try.prog 84 [nV s] h0 fun v h' => v = retVal [nV (rW s), nV (rL s)] ∧ h0 = h' := by
  refine ret_of_X Try.func84 rfl rfl fun w0 hw0 => ?_
  simp only [argE, Nat.zero_add, Nat.reduceAdd]
  refine X_seq ?_
  refine X_reg ?_
  refine XR_a (op_assign rfl) rfl rfl ?_
  refine XR_a (op_assign rfl) rfl rfl ?_
  refine XR_nil ?_
  refine X_seq ?_
  refine X_seq ?_
  refine X_reg ?_
  refine XR_a (op_move rfl) rfl rfl ?_
  refine XR_nil ?_
  refine X_block ?_
  refine X_seq ?_
  refine X_reg ?_
  refine XR_a (op_eql rfl rfl) rfl rfl ?_
  refine XR_a (op_assign rfl) rfl rfl ?_
  refine XR_nil ?_
  refine X_if rfl (fun h => ?_) (fun h => ?_)
  · refine X_seq ?_
    refine X_reg ?_
    refine XR_a (op_assign rfl) rfl rfl ?_
    refine XR_a (op_assign rfl) rfl rfl ?_
    refine XR_nil ?_
    refine X_ret (.cons (.tmp rfl) (.cons (.tmp rfl) .nil)) ?_
    obtain rfl : s = 16 := by omega
    exact ⟨rfl, rfl⟩
  · refine X_seq ?_
    refine X_reg ?_
    refine XR_a (op_eql rfl rfl) rfl rfl ?_
    refine XR_a (op_assign rfl) rfl rfl ?_
    refine XR_nil ?_
    refine X_if rfl (fun h => ?_) (fun h => ?_)
    · refine X_seq ?_
      refine X_reg ?_
      refine XR_a (op_assign rfl) rfl rfl ?_
      refine XR_a (op_assign rfl) rfl rfl ?_
      refine XR_nil ?_
      refine X_ret (.cons (.tmp rfl) (.cons (.tmp rfl) .nil)) ?_
      obtain rfl : s = 17 := by omega
      exact ⟨rfl, rfl⟩
    · refine X_seq ?_
      refine X_reg ?_
      refine XR_a (op_eql rfl rfl) rfl rfl ?_
      refine XR_a (op_assign rfl) rfl rfl ?_
      refine XR_nil ?_
      refine X_if rfl (fun h => ?_) (fun h => ?_)
      · refine X_seq ?_
        refine X_reg ?_
        refine XR_a (op_assign rfl) rfl rfl ?_
        refine XR_a (op_assign rfl) rfl rfl ?_
        refine XR_nil ?_
        refine X_ret (.cons (.tmp rfl) (.cons (.tmp rfl) .nil)) ?_
        obtain rfl : s = 18 := by omega
        exact ⟨rfl, rfl⟩
      · refine X_skip ?_
        refine X_blk ?_
        refine X_seq ?_
        refine X_reg ?_
        refine XR_a (op_assign rfl) rfl rfl ?_
        refine XR_a (op_assign rfl) rfl rfl ?_
        refine XR_nil ?_
        refine X_ret (.cons (.tmp rfl) (.cons (.tmp rfl) .nil)) ?_
        unfold rL rW
        simp only [if_neg (show ¬ s = 16 by omega), if_neg (show ¬ s = 17 by omega), if_neg (show ¬ s = 18 by omega)]
        exact ⟨rfl, trivial⟩

@[reducible] def uV (x : Nat) : Value := .int .u64 (x : Int)
theorem uV_eq {x y : Nat} (h : x = y) : uV x = uV y := by rw [h]
theorem mul64_spec (m : Nat) (h0 : Heap) (hm : m < 4294967296) : Ret Try.prog 142 [uV 1, uV m] h0 fun v h' => v = retVal [uV 0, uV m] ∧ h0 = h' := by
  refine ret_of_X Try.func142 rfl rfl fun w0 hw0 => ?_
  simp only [argE, Nat.zero_add, Nat.reduceAdd]
  refine X_seq ?_
  refine X_reg ?_
  refine XR_a (op_assign rfl) rfl rfl ?_
  refine XR_a (op_assign rfl) rfl rfl ?_
  refine XR_nil ?_
  refine X_seq ?_
  refine X_reg ?_
  refine XR_a (op_move rfl) rfl rfl ?_
  first | refine XR_a (op_andN (n := 4294967295) rfl rfl rfl (by simp only [IntKind.bits]; omega) (by simp only [IntKind.bits]; omega)) rfl rfl ?_ | refine XR_a (op_and rfl rfl) rfl rfl ?_
  refine XR_as (uV 1) rfl ?_
  refine XR_a (op_assign rfl) rfl rfl ?_
  refine XR_nil ?_
  refine X_seq ?_
  refine X_reg ?_
  refine XR_a (op_move rfl) rfl rfl ?_
  first | refine XR_a (op_shrC 32 rfl rfl (by decide)) rfl rfl ?_ | refine XR_a (op_shrN 32 rfl rfl (by decide)) rfl rfl ?_
  refine XR_as (uV 0) rfl ?_
  refine XR_a (op_assign rfl) rfl rfl ?_
  refine XR_nil ?_
  refine X_seq ?_
  refine X_reg ?_
  refine XR_a (op_move rfl) rfl rfl ?_
  refine XR_a (op_andN (m := m) (n := 4294967295) rfl rfl rfl (by simp only [IntKind.bits]; omega) (by simp only [IntKind.bits]; omega)) rfl rfl ?_
  refine XR_as (uV m) (uV_eq (by rw [show 4294967295 = 2 ^ 32 - 1 from rfl, Nat.and_two_pow_sub_one_eq_mod]; omega)) ?_
  refine XR_a (op_assign rfl) rfl rfl ?_
  refine XR_nil ?_
  refine X_seq ?_
  refine X_reg ?_
  refine XR_a (op_move rfl) rfl rfl ?_
  first | refine XR_a (op_shrC 32 rfl rfl (by decide)) rfl rfl ?_ | refine XR_a (op_shrN 32 rfl rfl (by decide)) rfl rfl ?_
  refine XR_as (uV 0) (uV_eq (Nat.div_eq_of_lt (by omega))) ?_
  refine XR_a (op_assign rfl) rfl rfl ?_
  refine XR_nil ?_
  refine X_seq ?_
  refine X_reg ?_
  refine XR_a (op_move rfl) rfl rfl ?_
  refine XR_a (op_move rfl) rfl rfl ?_
  first | refine XR_a (op_mulN rfl rfl (by simp only [inK]; omega)) rfl rfl ?_ | refine XR_a (op_mulI rfl rfl (by simp only [inK]; omega)) rfl rfl ?_ | refine XR_a (op_mul rfl rfl) rfl rfl ?_
  refine XR_as (uV m) (uV_eq (by omega)) ?_
  refine XR_a (op_assign rfl) rfl rfl ?_
  refine XR_nil ?_
  refine X_seq ?_
  refine X_reg ?_
  refine XR_a (op_move rfl) rfl rfl ?_
  refine XR_a (op_move rfl) rfl rfl ?_
  first | refine XR_a (op_mulN rfl rfl (by simp only [inK]; omega)) rfl rfl ?_ | refine XR_a (op_mulI rfl rfl (by simp only [inK]; omega)) rfl rfl ?_ | refine XR_a (op_mul rfl rfl) rfl rfl ?_
  refine XR_as (uV 0) (uV_eq (by omega)) ?_
  refine XR_a (op_move rfl) rfl rfl ?_
  first | refine XR_a (op_shrC 32 rfl rfl (by decide)) rfl rfl ?_ | refine XR_a (op_shrN 32 rfl rfl (by decide)) rfl rfl ?_
  refine XR_as (uV 0) (uV_eq (Nat.div_eq_of_lt (by omega))) ?_
  first | refine XR_a (op_addN rfl rfl (by simp only [inK]; omega)) rfl rfl ?_ | refine XR_a (op_addI rfl rfl (by simp only [inK]; omega)) rfl rfl ?_ | refine XR_a (op_add rfl rfl) rfl rfl ?_
  refine XR_as (uV 0) rfl ?_
  refine XR_a (op_assign rfl) rfl rfl ?_
  refine XR_nil ?_
  refine X_seq ?_
  refine X_reg ?_
  refine XR_a (op_move rfl) rfl rfl ?_
  first | refine XR_a (op_andN (n := 4294967295) rfl rfl rfl (by simp only [IntKind.bits]; omega) (by simp only [IntKind.bits]; omega)) rfl rfl ?_ | refine XR_a (op_and rfl rfl) rfl rfl ?_
  refine XR_as (uV 0) rfl ?_
  refine XR_a (op_assign rfl) rfl rfl ?_
  refine XR_nil ?_
  refine X_seq ?_
  refine X_reg ?_
  refine XR_a (op_move rfl) rfl rfl ?_
  first | refine XR_a (op_shrC 32 rfl rfl (by decide)) rfl rfl ?_ | refine XR_a (op_shrN 32 rfl rfl (by decide)) rfl rfl ?_
  refine XR_as (uV 0) rfl ?_
  refine XR_a (op_assign rfl) rfl rfl ?_
  refine XR_nil ?_
  refine X_seq ?_
  refine X_reg ?_
  refine XR_a (op_move rfl) rfl rfl ?_
  refine XR_a (op_move rfl) rfl rfl ?_
  refine XR_a (op_move rfl) rfl rfl ?_
  first | refine XR_a (op_mulN rfl rfl (by simp only [inK]; omega)) rfl rfl ?_ | refine XR_a (op_mulI rfl rfl (by simp only [inK]; omega)) rfl rfl ?_ | refine XR_a (op_mul rfl rfl) rfl rfl ?_
  refine XR_as (uV 0) rfl ?_
  first | refine XR_a (op_addN rfl rfl (by simp only [inK]; omega)) rfl rfl ?_ | refine XR_a (op_addI rfl rfl (by simp only [inK]; omega)) rfl rfl ?_ | refine XR_a (op_add rfl rfl) rfl rfl ?_
  refine XR_as (uV 0) rfl ?_
  refine XR_a (op_assign rfl) rfl rfl ?_
  refine XR_nil ?_
  refine X_seq ?_
  refine X_reg ?_
  refine XR_a (op_move rfl) rfl rfl ?_
  refine XR_a (op_move rfl) rfl rfl ?_
  first | refine XR_a (op_mulN rfl rfl (by simp only [inK]; omega)) rfl rfl ?_ | refine XR_a (op_mulI rfl rfl (by simp only [inK]; omega)) rfl rfl ?_ | refine XR_a (op_mul rfl rfl) rfl rfl ?_
  refine XR_as (uV 0) rfl ?_
  refine XR_a (op_move rfl) rfl rfl ?_
  first | refine XR_a (op_addN rfl rfl (by simp only [inK]; omega)) rfl rfl ?_ | refine XR_a (op_addI rfl rfl (by simp only [inK]; omega)) rfl rfl ?_ | refine XR_a (op_add rfl rfl) rfl rfl ?_
  refine XR_as (uV 0) rfl ?_
  refine XR_a (op_move rfl) rfl rfl ?_
  first | refine XR_a (op_shrC 32 rfl rfl (by decide)) rfl rfl ?_ | refine XR_a (op_shrN 32 rfl rfl (by decide)) rfl rfl ?_
  refine XR_as (uV 0) rfl ?_
  first | refine XR_a (op_addN rfl rfl (by simp only [inK]; omega)) rfl rfl ?_ | refine XR_a (op_addI rfl rfl (by simp only [inK]; omega)) rfl rfl ?_ | refine XR_a (op_add rfl rfl) rfl rfl ?_
  refine XR_as (uV 0) rfl ?_
  refine XR_a (op_assign rfl) rfl rfl ?_
  refine XR_nil ?_
  refine X_seq ?_
  refine X_reg ?_
  refine XR_a (op_move rfl) rfl rfl ?_
  refine XR_a (op_move rfl) rfl rfl ?_
  first | refine XR_a (op_mulN rfl rfl (by simp only [inK]; omega)) rfl rfl ?_ | refine XR_a (op_mulI rfl rfl (by simp only [inK]; omega)) rfl rfl ?_ | refine XR_a (op_mul rfl rfl) rfl rfl ?_
  refine XR_as (uV m) (uV_eq (by omega)) ?_
  refine XR_a (op_assign rfl) rfl rfl ?_
  refine XR_nil ?_
  refine X_ret (.cons (.tmp rfl) (.cons (.tmp rfl) .nil)) ?_
  exact ⟨rfl, rfl⟩
theorem mul_spec (m : Nat) (h0 : Heap) (hm : m < 4294967296) : Ret Try.prog 134 [uV 1, uV m] h0 fun v h' => v = retVal [uV 0, uV m] ∧ h0 = h' := by
  refine ret_of_X Try.func134 rfl rfl fun w0 hw0 => ?_
  simp only [argE, Nat.zero_add, Nat.reduceAdd]
  refine X_seq ?_
  refine X_reg ?_
  refine XR_a (op_assign rfl) rfl rfl ?_
  refine XR_a (op_assign rfl) rfl rfl ?_
  refine XR_nil ?_
  refine X_seq ?_
  refine X_else rfl ?_
  refine X_skip ?_
  refine X_seq ?_
  refine X_reg ?_
  refine XR_a (op_move rfl) rfl rfl ?_
  refine XR_a (op_move rfl) rfl rfl ?_
  refine XR_wa (opl_call (mul64_spec m _ hm) rfl (by kernel_rfl)) rfl rfl rfl ?_
  rintro _ _ ⟨rfl, rfl⟩
  refine XR_a (op_move rfl) rfl rfl ?_
  refine XR_a (op_extract rfl rfl) rfl rfl ?_
  refine XR_a (op_extract rfl rfl) rfl rfl ?_
  refine XR_a (op_assign rfl) rfl rfl ?_
  refine XR_a (op_assign rfl) rfl rfl ?_
  refine XR_nil ?_
  refine X_seq ?_
  refine X_reg ?_
  refine XR_a (op_move rfl) rfl rfl ?_
  refine XR_a (op_move rfl) rfl rfl ?_
  refine XR_a (op_assign rfl) rfl rfl ?_
  refine XR_a (op_assign rfl) rfl rfl ?_
  refine XR_nil ?_
  refine X_ret (.cons (.tmp rfl) (.cons (.tmp rfl) .nil)) ?_
  exact ⟨rfl, rfl⟩

theorem rep_copy {x k m : Nat} (h1 : k ≤ m) : (((List.replicate k x ++ List.replicate (m - k) 0).map nV).take k ++ ((List.replicate k x).map nV).take (min k (m - k) * 1) ++ ((List.replicate k x ++ List.replicate (m - k) 0).map nV).drop (k + min k (m - k) * 1)) = (List.replicate (k + min k (m - k)) x ++ List.replicate (m - (k + min k (m - k))) 0).map nV := by
  rw [Nat.mul_one, ← List.map_take, ← List.map_take, ← List.map_drop, ← List.map_append, ← List.map_append]
  congr 1
  rw [List.take_append_of_le_length (by simp), List.take_of_length_le (by simp), List.take_replicate, List.drop_append, List.drop_of_length_le (by rw [List.length_replicate]; omega), List.nil_append, List.drop_replicate, List.length_replicate]
  rw [Nat.min_eq_left (Nat.min_le_left _ _), ← List.replicate_append_replicate]
  congr 2
  omega

theorem repeat_spec {c x m : Nat} {A : Option Addr} {h0 : Heap} (hr : Rd h0 A [nV x]) (hm1 : 1 ≤ m) (hm : m ≤ 65536) :
    Ret Try.prog 116 [.slice A 1 c, nV m] h0 fun v h' => St h0.size h0 h' [row 3 1 v ((List.replicate m x).map nV)] := by
  refine ret_of_X Try.func116 rfl rfl fun w0 hw0 => ?_
  simp only [argE, Nat.zero_add, Nat.reduceAdd]
  have st := St.start h0
  refine X_seq ?_
  refine X_reg ?_
  refine XR_a (op_assign rfl) rfl rfl ?_
  refine XR_nil ?_
  refine X_seq ?_
  refine X_seq ?_
  refine X_reg ?_
  refine XR_a (op_move rfl) rfl rfl ?_
  refine XR_a (op_lss rfl rfl) rfl rfl ?_
  refine XR_nil ?_
  refine X_if rfl (fun h => ?_) (fun h => ?_)
  · exact absurd h (by omega)
  · refine X_skip ?_
    refine X_seq ?_
    refine X_reg ?_
    refine XR_a (op_move rfl) rfl rfl ?_
    refine XR_a (op_len rfl rfl rfl) rfl rfl ?_
    first | refine XR_a (op_convI rfl rfl (by simp only [inK]; omega)) rfl rfl ?_ | refine XR_a (op_convU rfl rfl rfl) rfl rfl ?_ | refine XR_a (op_conv rfl rfl) rfl rfl ?_
    refine XR_a (op_move rfl) rfl rfl ?_
    first | refine XR_a (op_convI rfl rfl (by simp only [inK]; omega)) rfl rfl ?_ | refine XR_a (op_convU rfl rfl rfl) rfl rfl ?_ | refine XR_a (op_conv rfl rfl) rfl rfl ?_
    refine XR_wa (opl_call (mul_spec m _ (by omega)) rfl (by kernel_rfl)) rfl rfl rfl ?_
    rintro _ _ ⟨rfl, rfl⟩
    refine XR_a (op_move rfl) rfl rfl ?_
    refine XR_a (op_extract rfl rfl) rfl rfl ?_
    refine XR_a (op_extract rfl rfl) rfl rfl ?_
    refine XR_a (op_assign rfl) rfl rfl ?_
    refine XR_a (op_assign rfl) rfl rfl ?_
    refine XR_nil ?_
    refine X_seq ?_
    refine X_seq ?_
    refine X_reg ?_
    refine XR_a (op_move rfl) rfl rfl ?_
    refine XR_a (op_gtr rfl rfl) rfl rfl ?_
    refine XR_a (op_move rfl) rfl rfl ?_
    refine XR_a (op_move rfl) rfl rfl ?_
    refine XR_a (op_gtr rfl rfl) rfl rfl ?_
    refine XR_a (op_pick_f rfl rfl) rfl rfl ?_
    refine XR_nil ?_
    refine X_if rfl (fun h => ?_) (fun h => ?_)
    · exact absurd h (by omega)
    · refine X_skip ?_
      refine X_seq ?_
      refine X_reg ?_
      refine XR_a (op_move rfl) rfl rfl ?_
      refine XR_a (op_convI (k' := .i64) rfl rfl (by simp only [inK]; omega)) rfl rfl ?_
      refine XR_wa (opl_mk (by omega) rfl rfl rfl) rfl rfl rfl ?_
      rintro v hp hnew
      have st := st.new hnew
      obtain ⟨g, n9, c9, rfl, hl9, hnc9, _⟩ := st.row0 0 rfl (by rw [List.length_replicate]; omega)
      rw [List.length_replicate, Nat.mul_one] at hl9
      obtain rfl : m = n9 := hl9
      refine XR_a (op_assign rfl) rfl rfl ?_
      refine XR_nil ?_
      refine X_seq ?_
      refine X_reg ?_
      refine XR_a (op_move rfl) rfl rfl ?_
      refine XR_a (op_move rfl) rfl rfl ?_
      refine XR_wa (opl_copy (n' := m) (c' := c9) (m := 1) st 0 rfl (hr.ext st.low) rfl (by intro u hu; rw [List.mem_singleton.1 hu]; rfl) (by rw [List.length_replicate]; omega) rfl rfl rfl rfl) rfl rfl rfl ?_
      rintro _ hp ⟨rfl, st⟩
      simp only [List.set_cons_zero] at st
      have e0 : (List.replicate m (Value.int .i64 0)).take 0 ++ [nV x].take (min 1 m * 1) ++ (List.replicate m (Value.int .i64 0)).drop (0 + min 1 m * 1) = (List.replicate 1 x ++ List.replicate (m - 1) 0).map nV := by
        rw [Nat.min_eq_left hm1]
        simp [List.drop_replicate]
      rw [e0] at st
      rw [Nat.min_eq_left hm1]
      refine XR_a (op_assign rfl) rfl rfl ?_
      refine XR_nil ?_
      refine X_seq ?_
      refine X_block ?_
      refine X_loop (fun k => m - k) (fun k => [(7, .slice (some ⟨g, 0, none⟩) m c9), (8, nV k)])
        (fun (k : Nat) hp => 1 ≤ k ∧ k ≤ m ∧ St h0.size h0 hp [row 3 1 (.slice (some ⟨g, 0, none⟩) m c9) ((List.replicate k x ++ List.replicate (m - k) 0).map nV)])
        1 (.cons rfl (.cons rfl (.nil _))) ⟨Nat.le_refl _, hm1, st⟩ ?_
      clear st
      rintro k hp ⟨hk1, hk, st⟩
      refine X_seq ?_
      refine X_seq ?_
      refine X_reg ?_
      refine XR_a (op_move rfl) rfl rfl ?_
      refine XR_a (op_move rfl) rfl rfl ?_
      refine XR_a (op_len rfl rfl rfl) rfl rfl ?_
      refine XR_a (op_lss rfl rfl) rfl rfl ?_
      refine XR_nil ?_
      refine X_if rfl (fun h => ?_) (fun h => ?_)
      · refine X_skip ?_
        refine X_block ?_
        refine X_draw byKind (by kernel_rfl) (by kernel_rfl) ?_
        refine XR_a (op_move rfl) rfl rfl ?_
        refine XR_a (op_move rfl) rfl rfl ?_
        refine XR_a (op_move rfl) rfl rfl ?_
        refine XR_a (op_slice_l rfl rfl rfl (by omega) (by omega)) rfl rfl ?_
        rw [cutA_some (by omega), Nat.mul_one]
        refine XR_a (op_move rfl) rfl rfl ?_
        refine XR_a (op_move rfl) rfl rfl ?_
        refine XR_a (op_slice_h rfl rfl rfl (by omega)) rfl rfl ?_
        rw [cutA_zero]
        refine XR_wa (opl_copy (o := k) (n' := m - k) (m := k) (news := (List.replicate k x).map nV) st 0 rfl (by have := (st.rdS 0 rfl).2.take k; rwa [← List.map_take, List.take_append_of_le_length (by simp), List.take_of_length_le (by simp)] at this) (by simp) (one_nV _) (by simp; omega) rfl rfl rfl rfl) rfl rfl rfl ?_
        rintro _ hp ⟨rfl, st⟩
        simp only [List.set_cons_zero] at st
        rw [rep_copy hk] at st
        first | refine XR_a (op_addN rfl rfl (by simp only [inK]; omega)) rfl rfl ?_ | refine XR_a (op_addI rfl rfl (by simp only [inK]; omega)) rfl rfl ?_ | refine XR_a (op_add rfl rfl) rfl rfl ?_
        refine XR_a (op_assign rfl) rfl rfl ?_
        refine XR_nil ?_
        refine X_blk ?_
        exact X_again (k + min k (m - k)) (.cons rfl (.cons rfl (.nil _))) ⟨by omega, by omega, st⟩ (by omega)
      · refine X_exit rfl ?_
        refine X_seq ?_
        refine X_reg ?_
        refine XR_a (op_move rfl) rfl rfl ?_
        refine XR_a (op_assign rfl) rfl rfl ?_
        refine XR_nil ?_
        refine X_ret (.cons (.tmp rfl) .nil) ?_
        obtain rfl : k = m := by omega
        rw [Nat.sub_self, List.replicate_zero, List.append_nil] at st
        exact st

theorem add_spec {B s m : Nat} {v : Value} {l : List Nat} {F : List Res} {h0 : Heap} (st : St B h0 h0 (Bn.row 3 1 v (l.map nV) :: F)) (hs : s < 19) (hm1 : rL s ≤ m) (hm2 : m ≤ rH s) (hl : l.length ≤ 65536) :
    Ret Try.prog 79 [v, .agg #[nV s, nV m]] h0 fun u h' => (s = 16 ∧ l.length = 0 ∧ u = retVal [.slice none 0 0, nV 3] ∧ St B h0 h' F) ∨ (¬ (s = 16 ∧ l.length = 0) ∧ ∃ w, u = retVal [w, nV 0] ∧ St B h0 h' (Bn.row 3 1 w ((rAdd l s m).map nV) :: F)) := by
  have hrh := rH_le s
  have hrp := rL_pos s
  obtain ⟨A, n, c, rfl, hln, _, _, hrd⟩ := st.row 0 rfl
  rw [List.length_map, Nat.mul_one] at hln
  refine ret_of_X Try.func79 rfl rfl fun w0 hw0 => ?_
  simp only [argE, Nat.zero_add, Nat.reduceAdd]
  refine X_seq ?_
  refine X_reg ?_
  refine XR_wa (opl_bx (cs := [nV s, nV m]) rfl rfl) rfl rfl rfl ?_
  rintro _ hp ⟨p, rfl, hnew⟩
  replace st := st.new hnew
  refine XR_a (op_assign rfl) rfl rfl ?_
  refine XR_a (op_assign rfl) rfl rfl ?_
  refine XR_nil ?_
  refine X_seq ?_
  refine X_reg ?_
  first | refine XR_a (op_field0 rfl rfl) rfl rfl ?_ | refine XR_a (op_fieldn rfl rfl) rfl rfl ?_
  refine XR_a (op_ld (st.cell 0 (i := 0) rfl rfl) rfl rfl rfl) rfl rfl ?_
  refine XR_wa (opl_call (bounds_spec s _) rfl (by kernel_rfl)) rfl rfl rfl ?_
  rintro _ _ ⟨rfl, rfl⟩
  refine XR_a (op_move rfl) rfl rfl ?_
  refine XR_a (op_extract rfl rfl) rfl rfl ?_
  refine XR_a (op_extract rfl rfl) rfl rfl ?_
  refine XR_a (op_extract rfl rfl) rfl rfl ?_
  refine XR_a (op_assign rfl) rfl rfl ?_
  refine XR_a (op_assign rfl) rfl rfl ?_
  refine XR_a (op_assign rfl) rfl rfl ?_
  refine XR_nil ?_
  refine X_seq ?_
  refine X_seq ?_
  refine X_reg ?_
  first | refine XR_a (op_field0 rfl rfl) rfl rfl ?_ | refine XR_a (op_fieldn rfl rfl) rfl rfl ?_
  refine XR_a (op_ld (st.cell 0 (i := 0) rfl rfl) rfl rfl rfl) rfl rfl ?_
  refine XR_a (op_lss rfl rfl) rfl rfl ?_
  refine XR_as (.bool false) (congrArg Value.bool (decide_eq_false (by omega))) ?_
  refine XR_a (op_move rfl) rfl rfl ?_
  first | refine XR_a (op_field0 rfl rfl) rfl rfl ?_ | refine XR_a (op_fieldn rfl rfl) rfl rfl ?_
  refine XR_a (op_ld (st.cell 0 (i := 0) rfl rfl) rfl rfl rfl) rfl rfl ?_
  refine XR_a (op_geq rfl rfl) rfl rfl ?_
  refine XR_as (.bool false) (congrArg Value.bool (decide_eq_false (by omega))) ?_
  refine XR_a (op_pick_f rfl rfl) rfl rfl ?_
  refine XR_a (op_move rfl) rfl rfl ?_
  first | refine XR_a (op_field0 rfl rfl) rfl rfl ?_ | refine XR_a (op_fieldn rfl rfl) rfl rfl ?_
  refine XR_a (op_ld (st.cell 0 (i := 1) rfl rfl) rfl rfl rfl) rfl rfl ?_
  refine XR_a (op_move rfl) rfl rfl ?_
  refine XR_a (op_lss rfl rfl) rfl rfl ?_
  refine XR_as (.bool false) (congrArg Value.bool (decide_eq_false (by omega))) ?_
  refine XR_a (op_pick_f rfl rfl) rfl rfl ?_
  refine XR_a (op_move rfl) rfl rfl ?_
  first | refine XR_a (op_field0 rfl rfl) rfl rfl ?_ | refine XR_a (op_fieldn rfl rfl) rfl rfl ?_
  refine XR_a (op_ld (st.cell 0 (i := 1) rfl rfl) rfl rfl rfl) rfl rfl ?_
  refine XR_a (op_move rfl) rfl rfl ?_
  refine XR_a (op_gtr rfl rfl) rfl rfl ?_
  refine XR_as (.bool false) (congrArg Value.bool (decide_eq_false (by omega))) ?_
  refine XR_a (op_pick_f rfl rfl) rfl rfl ?_
  refine XR_a (op_move rfl) rfl rfl ?_
  first | refine XR_a (op_field0 rfl rfl) rfl rfl ?_ | refine XR_a (op_fieldn rfl rfl) rfl rfl ?_
  refine XR_a (op_ld (st.cell 0 (i := 0) rfl rfl) rfl rfl rfl) rfl rfl ?_
  refine XR_a (op_eql rfl rfl) rfl rfl ?_
  refine XR_a (op_move rfl) rfl rfl ?_
  refine XR_if 41 rfl (fun h => ?_) (fun h => ?_)
  · have h41 := h
    refine XR_a (op_move rfl) rfl rfl ?_
    refine XR_a (op_len rfl rfl rfl) rfl rfl ?_
    refine XR_a (op_eql rfl rfl) rfl rfl ?_
    refine XR_a (op_pick_t rfl rfl) rfl rfl ?_
    refine XR_a (op_pick_f rfl rfl) rfl rfl ?_
    refine XR_nil ?_
    refine X_if rfl (fun h => ?_) (fun h => ?_)
    · refine X_seq ?_
      refine X_reg ?_
      refine XR_a (op_assign rfl) rfl rfl ?_
      refine XR_a (op_assign rfl) rfl rfl ?_
      refine XR_nil ?_
      refine X_ret (.cons (.tmp rfl) (.cons (.tmp rfl) .nil)) ?_
      exact .inl ⟨by omega, by omega, rfl, st.tail.tail⟩
    · refine X_skip ?_
      refine X_seq ?_
      refine X_reg ?_
      first | refine XR_a (op_field0 rfl rfl) rfl rfl ?_ | refine XR_a (op_fieldn rfl rfl) rfl rfl ?_
      refine XR_a (op_ld (st.cell 0 (i := 0) rfl rfl) rfl rfl rfl) rfl rfl ?_
      refine XR_a (op_assign rfl) rfl rfl ?_
      refine XR_nil ?_
      refine X_seq ?_
      refine X_block ?_
      refine X_seq ?_
      refine X_reg ?_
      refine XR_a (op_move rfl) rfl rfl ?_
      refine XR_a (op_eql rfl rfl) rfl rfl ?_
      refine XR_a (op_assign rfl) rfl rfl ?_
      refine XR_nil ?_
      refine X_if rfl (fun h => ?_) (fun h => ?_)
      · have hv : rV l s = l.getD (n - 1) 0 := by unfold rV; rw [if_pos (by omega), hln]
        have hn1 : 1 ≤ n := by omega
        obtain ⟨g, o, rfl, hc⟩ := (st.rdS 1 rfl).2.at_ (by rw [List.length_map]; omega)
        have hlast := hc (n - 1) (nV (rV l s)) (by rw [hv, List.getElem?_map, List.getElem?_eq_getElem (by omega), getD_get (by omega)]; rfl)
        refine X_reg ?_
        refine XR_a (op_move rfl) rfl rfl ?_
        refine XR_a (op_move rfl) rfl rfl ?_
        refine XR_a (op_len rfl rfl rfl) rfl rfl ?_
        first | refine XR_a (op_subN (n := 1) rfl rfl (by omega) (by simp only [inK]; omega)) rfl rfl ?_ | refine XR_a (op_subI rfl rfl (by simp only [inK]; omega)) rfl rfl ?_ | refine XR_a (op_sub rfl rfl) rfl rfl ?_
        refine XR_a (op_index1 (i := n - 1) rfl rfl rfl (by omega)) rfl rfl ?_
        refine XR_a (op_ld (hlast) rfl rfl rfl) rfl rfl ?_
        refine XR_a (op_assign rfl) rfl rfl ?_
        refine XR_nil ?_
        refine X_blk ?_
        refine X_seq ?_
        refine X_reg ?_
        refine XR_a (op_move rfl) rfl rfl ?_
        refine XR_a (op_move rfl) rfl rfl ?_
        refine XR_wa (opl_lit1 rfl rfl rfl) rfl rfl rfl ?_
        rintro v7 hp hnew
        replace st := st.new hnew
        obtain ⟨A7, n7, c7, rfl, hl7, _, _, hrd7⟩ := st.row 0 rfl
        obtain rfl : n7 = 1 := by simpa using hl7.symm
        first | refine XR_a (op_field0 rfl rfl) rfl rfl ?_ | refine XR_a (op_fieldn rfl rfl) rfl rfl ?_
        refine XR_a (op_ld (st.cell 1 (i := 1) rfl rfl) rfl rfl rfl) rfl rfl ?_
        refine XR_wa (opl_call (repeat_spec (x := rV l s) hrd7 (by omega) (by omega)) rfl (by kernel_rfl)) rfl rfl rfl ?_
        rintro v8 hp8 st8
        obtain ⟨A8, n8, c8, rfl, hl8, _, _, hrd8⟩ := st8.row 0 rfl
        rw [List.length_map, List.length_replicate, Nat.mul_one] at hl8
        replace st := st.join st8
        simp only [List.cons_append, List.nil_append] at st
        refine XR_wa (opl_append st 3 rfl (hrd8) (by rw [List.length_map, List.length_replicate]; omega) (one_nV _) (by simp; omega) rfl rfl rfl rfl rfl rfl rfl) rfl rfl rfl fun v hp st => ?_
        simp only [List.set_cons_zero, List.set_cons_succ] at st
        rw [← List.map_append] at st
        refine XR_a (op_assign rfl) rfl rfl ?_
        refine XR_a (op_assign rfl) rfl rfl ?_
        refine XR_nil ?_
        refine X_ret (.cons (.tmp rfl) (.cons (.tmp rfl) .nil)) ?_
        exact .inr ⟨by omega, _, rfl, st.tail.tail.tail⟩
      · refine X_seq ?_
        refine X_reg ?_
        refine XR_a (op_move rfl) rfl rfl ?_
        refine XR_a (op_gtr rfl rfl) rfl rfl ?_
        refine XR_a (op_assign rfl) rfl rfl ?_
        refine XR_nil ?_
        refine X_if rfl (fun h => ?_) (fun h => ?_)
        · have hv : rV l s = 0 := by unfold rV; rw [if_neg (by omega), if_pos (by omega)]
          refine X_reg ?_
          refine XR_a (op_assign rfl) rfl rfl ?_
          refine XR_nil ?_
          refine X_blk ?_
          refine X_seq ?_
          refine X_reg ?_
          refine XR_a (op_move rfl) rfl rfl ?_
          refine XR_a (op_move rfl) rfl rfl ?_
          refine XR_wa (opl_lit1 rfl rfl rfl) rfl rfl rfl ?_
          rintro v7 hp hnew
          replace st := st.new hnew
          obtain ⟨A7, n7, c7, rfl, hl7, _, _, hrd7⟩ := st.row 0 rfl
          obtain rfl : n7 = 1 := by simpa using hl7.symm
          first | refine XR_a (op_field0 rfl rfl) rfl rfl ?_ | refine XR_a (op_fieldn rfl rfl) rfl rfl ?_
          refine XR_a (op_ld (st.cell 1 (i := 1) rfl rfl) rfl rfl rfl) rfl rfl ?_
          refine XR_wa (opl_call (repeat_spec (x := 0) hrd7 (by omega) (by omega)) rfl (by kernel_rfl)) rfl rfl rfl ?_
          rintro v8 hp8 st8
          rw [← hv] at st8
          obtain ⟨A8, n8, c8, rfl, hl8, _, _, hrd8⟩ := st8.row 0 rfl
          rw [List.length_map, List.length_replicate, Nat.mul_one] at hl8
          replace st := st.join st8
          simp only [List.cons_append, List.nil_append] at st
          refine XR_wa (opl_append st 3 rfl (hrd8) (by rw [List.length_map, List.length_replicate]; omega) (one_nV _) (by simp; omega) rfl rfl rfl rfl rfl rfl rfl) rfl rfl rfl fun v hp st => ?_
          simp only [List.set_cons_zero, List.set_cons_succ] at st
          rw [← List.map_append] at st
          refine XR_a (op_assign rfl) rfl rfl ?_
          refine XR_a (op_assign rfl) rfl rfl ?_
          refine XR_nil ?_
          refine X_ret (.cons (.tmp rfl) (.cons (.tmp rfl) .nil)) ?_
          exact .inr ⟨by omega, _, rfl, st.tail.tail.tail⟩
        · have hv : rV l s = s := by unfold rV; rw [if_neg (by omega), if_neg (by omega)]
          refine X_skip ?_
          refine X_blk ?_
          refine X_seq ?_
          refine X_reg ?_
          refine XR_a (op_move rfl) rfl rfl ?_
          refine XR_a (op_move rfl) rfl rfl ?_
          refine XR_wa (opl_lit1 rfl rfl rfl) rfl rfl rfl ?_
          rintro v7 hp hnew
          replace st := st.new hnew
          obtain ⟨A7, n7, c7, rfl, hl7, _, _, hrd7⟩ := st.row 0 rfl
          obtain rfl : n7 = 1 := by simpa using hl7.symm
          first | refine XR_a (op_field0 rfl rfl) rfl rfl ?_ | refine XR_a (op_fieldn rfl rfl) rfl rfl ?_
          refine XR_a (op_ld (st.cell 1 (i := 1) rfl rfl) rfl rfl rfl) rfl rfl ?_
          refine XR_wa (opl_call (repeat_spec (x := s) hrd7 (by omega) (by omega)) rfl (by kernel_rfl)) rfl rfl rfl ?_
          rintro v8 hp8 st8
          have hv2 : List.replicate m s = List.replicate m (rV l s) := by rw [hv]
          rw [hv2] at st8
          have st8' := st8
          obtain ⟨A8, n8, c8, rfl, hl8, _, _, hrd8⟩ := st8'.row 0 rfl
          rw [List.length_map, List.length_replicate, Nat.mul_one] at hl8
          replace st := st.join st8'
          simp only [List.cons_append, List.nil_append] at st
          refine XR_wa (opl_append st 3 rfl (hrd8) (by rw [List.length_map, List.length_replicate]; omega) (one_nV _) (by simp; omega) rfl rfl rfl rfl rfl rfl rfl) rfl rfl rfl fun v hp st => ?_
          simp only [List.set_cons_zero, List.set_cons_succ] at st
          rw [← List.map_append] at st
          refine XR_a (op_assign rfl) rfl rfl ?_
          refine XR_a (op_assign rfl) rfl rfl ?_
          refine XR_nil ?_
          refine X_ret (.cons (.tmp rfl) (.cons (.tmp rfl) .nil)) ?_
          exact .inr ⟨by omega, _, rfl, st.tail.tail.tail⟩
  · have h41 := h
    refine XR_no rfl rfl ?_
    refine XR_no rfl rfl ?_
    refine XR_no rfl rfl ?_
    refine XR_a (op_pick_f rfl rfl) rfl rfl ?_
    refine XR_a (op_pick_f rfl rfl) rfl rfl ?_
    refine XR_nil ?_
    refine X_else rfl ?_
    refine X_skip ?_
    refine X_seq ?_
    refine X_reg ?_
    first | refine XR_a (op_field0 rfl rfl) rfl rfl ?_ | refine XR_a (op_fieldn rfl rfl) rfl rfl ?_
    refine XR_a (op_ld (st.cell 0 (i := 0) rfl rfl) rfl rfl rfl) rfl rfl ?_
    refine XR_a (op_assign rfl) rfl rfl ?_
    refine XR_nil ?_
    refine X_seq ?_
    refine X_block ?_
    refine X_seq ?_
    refine X_reg ?_
    refine XR_a (op_move rfl) rfl rfl ?_
    refine XR_a (op_eql rfl rfl) rfl rfl ?_
    refine XR_a (op_assign rfl) rfl rfl ?_
    refine XR_nil ?_
    refine X_if rfl (fun h => ?_) (fun h => ?_)
    · have hv : rV l s = l.getD (n - 1) 0 := by unfold rV; rw [if_pos (by omega), hln]
      have hn1 : 1 ≤ n := by omega
      obtain ⟨g, o, rfl, hc⟩ := (st.rdS 1 rfl).2.at_ (by rw [List.length_map]; omega)
      have hlast := hc (n - 1) (nV (rV l s)) (by rw [hv, List.getElem?_map, List.getElem?_eq_getElem (by omega), getD_get (by omega)]; rfl)
      refine X_reg ?_
      refine XR_a (op_move rfl) rfl rfl ?_
      refine XR_a (op_move rfl) rfl rfl ?_
      refine XR_a (op_len rfl rfl rfl) rfl rfl ?_
      first | refine XR_a (op_subN (n := 1) rfl rfl (by omega) (by simp only [inK]; omega)) rfl rfl ?_ | refine XR_a (op_subI rfl rfl (by simp only [inK]; omega)) rfl rfl ?_ | refine XR_a (op_sub rfl rfl) rfl rfl ?_
      refine XR_a (op_index1 (i := n - 1) rfl rfl rfl (by omega)) rfl rfl ?_
      refine XR_a (op_ld (hlast) rfl rfl rfl) rfl rfl ?_
      refine XR_a (op_assign rfl) rfl rfl ?_
      refine XR_nil ?_
      refine X_blk ?_
      refine X_seq ?_
      refine X_reg ?_
      refine XR_a (op_move rfl) rfl rfl ?_
      refine XR_a (op_move rfl) rfl rfl ?_
      refine XR_wa (opl_lit1 rfl rfl rfl) rfl rfl rfl ?_
      rintro v7 hp hnew
      replace st := st.new hnew
      obtain ⟨A7, n7, c7, rfl, hl7, _, _, hrd7⟩ := st.row 0 rfl
      obtain rfl : n7 = 1 := by simpa using hl7.symm
      first | refine XR_a (op_field0 rfl rfl) rfl rfl ?_ | refine XR_a (op_fieldn rfl rfl) rfl rfl ?_
      refine XR_a (op_ld (st.cell 1 (i := 1) rfl rfl) rfl rfl rfl) rfl rfl ?_
      refine XR_wa (opl_call (repeat_spec (x := rV l s) hrd7 (by omega) (by omega)) rfl (by kernel_rfl)) rfl rfl rfl ?_
      rintro v8 hp8 st8
      obtain ⟨A8, n8, c8, rfl, hl8, _, _, hrd8⟩ := st8.row 0 rfl
      rw [List.length_map, List.length_replicate, Nat.mul_one] at hl8
      replace st := st.join st8
      simp only [List.cons_append, List.nil_append] at st
      refine XR_wa (opl_append st 3 rfl (hrd8) (by rw [List.length_map, List.length_replicate]; omega) (one_nV _) (by simp; omega) rfl rfl rfl rfl rfl rfl rfl) rfl rfl rfl fun v hp st => ?_
      simp only [List.set_cons_zero, List.set_cons_succ] at st
      rw [← List.map_append] at st
      refine XR_a (op_assign rfl) rfl rfl ?_
      refine XR_a (op_assign rfl) rfl rfl ?_
      refine XR_nil ?_
      refine X_ret (.cons (.tmp rfl) (.cons (.tmp rfl) .nil)) ?_
      exact .inr ⟨by omega, _, rfl, st.tail.tail.tail⟩
    · refine X_seq ?_
      refine X_reg ?_
      refine XR_a (op_move rfl) rfl rfl ?_
      refine XR_a (op_gtr rfl rfl) rfl rfl ?_
      refine XR_a (op_assign rfl) rfl rfl ?_
      refine XR_nil ?_
      refine X_if rfl (fun h => ?_) (fun h => ?_)
      · have hv : rV l s = 0 := by unfold rV; rw [if_neg (by omega), if_pos (by omega)]
        refine X_reg ?_
        refine XR_a (op_assign rfl) rfl rfl ?_
        refine XR_nil ?_
        refine X_blk ?_
        refine X_seq ?_
        refine X_reg ?_
        refine XR_a (op_move rfl) rfl rfl ?_
        refine XR_a (op_move rfl) rfl rfl ?_
        refine XR_wa (opl_lit1 rfl rfl rfl) rfl rfl rfl ?_
        rintro v7 hp hnew
        replace st := st.new hnew
        obtain ⟨A7, n7, c7, rfl, hl7, _, _, hrd7⟩ := st.row 0 rfl
        obtain rfl : n7 = 1 := by simpa using hl7.symm
        first | refine XR_a (op_field0 rfl rfl) rfl rfl ?_ | refine XR_a (op_fieldn rfl rfl) rfl rfl ?_
        refine XR_a (op_ld (st.cell 1 (i := 1) rfl rfl) rfl rfl rfl) rfl rfl ?_
        refine XR_wa (opl_call (repeat_spec (x := 0) hrd7 (by omega) (by omega)) rfl (by kernel_rfl)) rfl rfl rfl ?_
        rintro v8 hp8 st8
        rw [← hv] at st8
        obtain ⟨A8, n8, c8, rfl, hl8, _, _, hrd8⟩ := st8.row 0 rfl
        rw [List.length_map, List.length_replicate, Nat.mul_one] at hl8
        replace st := st.join st8
        simp only [List.cons_append, List.nil_append] at st
        refine XR_wa (opl_append st 3 rfl (hrd8) (by rw [List.length_map, List.length_replicate]; omega) (one_nV _) (by simp; omega) rfl rfl rfl rfl rfl rfl rfl) rfl rfl rfl fun v hp st => ?_
        simp only [List.set_cons_zero, List.set_cons_succ] at st
        rw [← List.map_append] at st
        refine XR_a (op_assign rfl) rfl rfl ?_
        refine XR_a (op_assign rfl) rfl rfl ?_
        refine XR_nil ?_
        refine X_ret (.cons (.tmp rfl) (.cons (.tmp rfl) .nil)) ?_
        exact .inr ⟨by omega, _, rfl, st.tail.tail.tail⟩
      · have hv : rV l s = s := by unfold rV; rw [if_neg (by omega), if_neg (by omega)]
        refine X_skip ?_
        refine X_blk ?_
        refine X_seq ?_
        refine X_reg ?_
        refine XR_a (op_move rfl) rfl rfl ?_
        refine XR_a (op_move rfl) rfl rfl ?_
        refine XR_wa (opl_lit1 rfl rfl rfl) rfl rfl rfl ?_
        rintro v7 hp hnew
        replace st := st.new hnew
        obtain ⟨A7, n7, c7, rfl, hl7, _, _, hrd7⟩ := st.row 0 rfl
        obtain rfl : n7 = 1 := by simpa using hl7.symm
        first | refine XR_a (op_field0 rfl rfl) rfl rfl ?_ | refine XR_a (op_fieldn rfl rfl) rfl rfl ?_
        refine XR_a (op_ld (st.cell 1 (i := 1) rfl rfl) rfl rfl rfl) rfl rfl ?_
        refine XR_wa (opl_call (repeat_spec (x := s) hrd7 (by omega) (by omega)) rfl (by kernel_rfl)) rfl rfl rfl ?_
        rintro v8 hp8 st8
        have hv2 : List.replicate m s = List.replicate m (rV l s) := by rw [hv]
        rw [hv2] at st8
        have st8' := st8
        obtain ⟨A8, n8, c8, rfl, hl8, _, _, hrd8⟩ := st8'.row 0 rfl
        rw [List.length_map, List.length_replicate, Nat.mul_one] at hl8
        replace st := st.join st8'
        simp only [List.cons_append, List.nil_append] at st
        refine XR_wa (opl_append st 3 rfl (hrd8) (by rw [List.length_map, List.length_replicate]; omega) (one_nV _) (by simp; omega) rfl rfl rfl rfl rfl rfl rfl) rfl rfl rfl fun v hp st => ?_
        simp only [List.set_cons_zero, List.set_cons_succ] at st
        rw [← List.map_append] at st
        refine XR_a (op_assign rfl) rfl rfl ?_
        refine XR_a (op_assign rfl) rfl rfl ?_
        refine XR_nil ?_
        refine X_ret (.cons (.tmp rfl) (.cons (.tmp rfl) .nil)) ?_
        exact .inr ⟨by omega, _, rfl, st.tail.tail.tail⟩
end Go.Bn
