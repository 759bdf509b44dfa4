/- Steps of a script: whether they may be written. -/
import Derived.Test.YtpkhilbgkkjebaaScript
set_option linter.unusedVariables false
set_option linter.unusedSimpArgs false
set_option maxHeartbeats 4000000
set_option maxRecDepth 20000
namespace Go.Bn
open Go Proofs

/-- A step. -/
structure Stp where
  kind : Int
  name : List UInt8
  data : List UInt8
  n : Int
  keep : List Bool
  names : Int
  fill : UInt8
def Stp.right (s : Stp) : Prop := (0 ≤ s.kind ∧ s.kind ≤ 255) ∧ (-1 ≤ s.n ∧ s.n ≤ 65534) ∧ (0 ≤ s.names ∧ s.names ≤ 255) ∧ s.name.length ≤ 255 ∧ s.data.length ≤ 65537 ∧ s.keep.length ≤ 255
instance (s : Stp) : Decidable s.right := by unfold Stp.right; infer_instance
/-- A step's cells, its data and entries at these slices. -/
@[reducible] def stC (s : Stp) (dv kv : Value) : List Value := [.int .i64 s.kind, .string (str s.name), dv, .int .i64 s.n, kv, .int .i64 s.names, byteV s.fill]

theorem sin_spec (n lo hi : Int) (h0 : Heap) : Ret Try.prog 32 [.int .i64 n, .int .i64 lo, .int .i64 hi] h0 fun v h' => v = .bool (decide (lo ≤ n ∧ n ≤ hi)) ∧ h0 = h' := by
  refine ret_of_X Try.func32 rfl rfl fun w0 hw0 => ?_
  simp only [argE, Nat.zero_add, Nat.reduceAdd]
  refine X_seq ?_
  refine X_reg ?_
  refine XR_a (op_assign rfl) rfl rfl ?_
  refine XR_nil ?_
  refine X_seq ?_
  refine X_reg ?_
  refine XR_a (op_move rfl) rfl rfl ?_
  refine XR_a (op_move rfl) rfl rfl ?_
  refine XR_a (op_geq rfl rfl) rfl rfl ?_
  refine XR_a (op_move rfl) rfl rfl ?_
  refine XR_if 10 rfl (fun h => ?_) (fun h => ?_)
  · refine XR_a (op_move rfl) rfl rfl ?_
    refine XR_a (op_move rfl) rfl rfl ?_
    refine XR_a (op_leq rfl rfl) rfl rfl ?_
    refine XR_a (op_pick_t rfl rfl) rfl rfl ?_
    refine XR_a (op_assign rfl) rfl rfl ?_
    refine XR_nil ?_
    refine X_ret (.cons (.tmp rfl) .nil) ?_
    first
      | exact ⟨congrArg Value.bool (decide_eq_false (by omega)).symm, rfl⟩
      | exact ⟨congrArg Value.bool (decide_eq_decide.2 ⟨fun hh => by omega, fun hh => by omega⟩), rfl⟩
  · refine XR_no rfl rfl ?_
    refine XR_no rfl rfl ?_
    refine XR_no rfl rfl ?_
    refine XR_a (op_pick_f rfl rfl) rfl rfl ?_
    refine XR_a (op_assign rfl) rfl rfl ?_
    refine XR_nil ?_
    refine X_ret (.cons (.tmp rfl) .nil) ?_
    first
      | exact ⟨congrArg Value.bool (decide_eq_false (by omega)).symm, rfl⟩
      | exact ⟨congrArg Value.bool (decide_eq_decide.2 ⟨fun hh => by omega, fun hh => by omega⟩), rfl⟩

theorem sright_spec (s : Stp) (A K : Option Addr) (cd ck : Nat) (h0 : Heap) : Ret Try.prog 17 [.agg (stC s (.slice A s.data.length cd) (.slice K s.keep.length ck)).toArray] h0 fun v h' => v = .bool (decide s.right) ∧ Ext h0 h' := by
  have hs := str_size s.name
  refine ret_of_X Try.func17 rfl rfl fun w0 hw0 => ?_
  simp only [argE, Nat.zero_add, Nat.reduceAdd]
  have st := St.start h0
  simp only [Stp.right]
  refine X_seq ?_
  refine X_reg ?_
  refine XR_wa (opl_bx (cs := stC s (.slice A s.data.length cd) (.slice K s.keep.length ck)) rfl rfl) rfl rfl rfl ?_
  rintro _ hp ⟨p, rfl, hnew⟩
  replace st := st.new hnew
  refine XR_a (op_assign rfl) rfl rfl ?_
  refine XR_nil ?_
  refine X_seq ?_
  refine X_reg ?_
  first | refine XR_a (op_field0 rfl rfl) rfl rfl ?_ | refine XR_a (op_fieldn rfl rfl) rfl rfl ?_
  refine XR_a (op_ld (st.cell 0 (i := 0) rfl rfl) rfl rfl rfl) rfl rfl ?_
  refine XR_wa (opl_call (sin_spec _ _ _ _) rfl (by kernel_rfl)) rfl rfl rfl ?_
  rintro _ _ ⟨rfl, rfl⟩
  refine XR_a (op_move rfl) rfl rfl ?_
  refine XR_if 7 rfl (fun h => ?_) (fun h => ?_)
  · first | refine XR_a (op_field0 rfl rfl) rfl rfl ?_ | refine XR_a (op_fieldn rfl rfl) rfl rfl ?_
    refine XR_a (op_ld (st.cell 0 (i := 3) rfl rfl) rfl rfl rfl) rfl rfl ?_
    refine XR_wa (opl_call (sin_spec _ _ _ _) rfl (by kernel_rfl)) rfl rfl rfl ?_
    rintro _ _ ⟨rfl, rfl⟩
    refine XR_a (op_pick_t rfl rfl) rfl rfl ?_
    refine XR_a (op_move rfl) rfl rfl ?_
    refine XR_if 12 rfl (fun h => ?_) (fun h => ?_)
    · first | refine XR_a (op_field0 rfl rfl) rfl rfl ?_ | refine XR_a (op_fieldn rfl rfl) rfl rfl ?_
      first | refine XR_a (op_field0 rfl rfl) rfl rfl ?_ | refine XR_a (op_fieldn rfl rfl) rfl rfl ?_
      refine XR_a (op_ld (st.cell 0 (i := 5) rfl rfl) rfl rfl rfl) rfl rfl ?_
      refine XR_wa (opl_call (sin_spec _ _ _ _) rfl (by kernel_rfl)) rfl rfl rfl ?_
      rintro _ _ ⟨rfl, rfl⟩
      refine XR_a (op_pick_t rfl rfl) rfl rfl ?_
      refine XR_a (op_assign rfl) rfl rfl ?_
      refine XR_nil ?_
      refine X_seq ?_
      refine X_reg ?_
      refine XR_a (op_move rfl) rfl rfl ?_
      refine XR_a (op_move rfl) rfl rfl ?_
      refine XR_if 19 rfl (fun h => ?_) (fun h => ?_)
      · first | refine XR_a (op_field0 rfl rfl) rfl rfl ?_ | refine XR_a (op_fieldn rfl rfl) rfl rfl ?_
        refine XR_a (op_ld (st.cell 0 (i := 1) rfl rfl) rfl rfl rfl) rfl rfl ?_
        refine XR_a (op_lenS rfl rfl rfl) rfl rfl ?_
        refine XR_a (op_leq rfl rfl) rfl rfl ?_
        refine XR_a (op_pick_t rfl rfl) rfl rfl ?_
        refine XR_a (op_move rfl) rfl rfl ?_
        refine XR_if 25 rfl (fun h => ?_) (fun h => ?_)
        · first | refine XR_a (op_field0 rfl rfl) rfl rfl ?_ | refine XR_a (op_fieldn rfl rfl) rfl rfl ?_
          refine XR_a (op_ld (st.cell 0 (i := 2) rfl rfl) rfl rfl rfl) rfl rfl ?_
          refine XR_a (op_len rfl rfl rfl) rfl rfl ?_
          refine XR_a (op_leq rfl rfl) rfl rfl ?_
          refine XR_a (op_pick_t rfl rfl) rfl rfl ?_
          refine XR_a (op_move rfl) rfl rfl ?_
          refine XR_if 31 rfl (fun h => ?_) (fun h => ?_)
          · first | refine XR_a (op_field0 rfl rfl) rfl rfl ?_ | refine XR_a (op_fieldn rfl rfl) rfl rfl ?_
            first | refine XR_a (op_field0 rfl rfl) rfl rfl ?_ | refine XR_a (op_fieldn rfl rfl) rfl rfl ?_
            refine XR_a (op_ld (st.cell 0 (i := 4) rfl rfl) rfl rfl rfl) rfl rfl ?_
            refine XR_a (op_len rfl rfl rfl) rfl rfl ?_
            refine XR_a (op_leq rfl rfl) rfl rfl ?_
            refine XR_a (op_pick_t rfl rfl) rfl rfl ?_
            refine XR_a (op_assign rfl) rfl rfl ?_
            refine XR_nil ?_
            refine X_ret (.cons (.tmp rfl) .nil) ?_
            first
              | exact ⟨congrArg Value.bool (decide_eq_false (by omega)).symm, st.low⟩
              | exact ⟨congrArg Value.bool (decide_eq_decide.2 ⟨fun hh => by omega, fun hh => by omega⟩), st.low⟩
          · refine XR_no rfl rfl ?_
            refine XR_no rfl rfl ?_
            refine XR_no rfl rfl ?_
            refine XR_no rfl rfl ?_
            refine XR_no rfl rfl ?_
            refine XR_a (op_pick_f rfl rfl) rfl rfl ?_
            refine XR_a (op_assign rfl) rfl rfl ?_
            refine XR_nil ?_
            refine X_ret (.cons (.tmp rfl) .nil) ?_
            first
              | exact ⟨congrArg Value.bool (decide_eq_false (by omega)).symm, st.low⟩
              | exact ⟨congrArg Value.bool (decide_eq_decide.2 ⟨fun hh => by omega, fun hh => by omega⟩), st.low⟩
        · refine XR_no rfl rfl ?_
          refine XR_no rfl rfl ?_
          refine XR_no rfl rfl ?_
          refine XR_no rfl rfl ?_
          refine XR_a (op_pick_f rfl rfl) rfl rfl ?_
          refine XR_a (op_move rfl) rfl rfl ?_
          refine XR_no rfl rfl ?_
          refine XR_no rfl rfl ?_
          refine XR_no rfl rfl ?_
          refine XR_no rfl rfl ?_
          refine XR_no rfl rfl ?_
          refine XR_a (op_pick_f rfl rfl) rfl rfl ?_
          refine XR_a (op_assign rfl) rfl rfl ?_
          refine XR_nil ?_
          refine X_ret (.cons (.tmp rfl) .nil) ?_
          first
            | exact ⟨congrArg Value.bool (decide_eq_false (by omega)).symm, st.low⟩
            | exact ⟨congrArg Value.bool (decide_eq_decide.2 ⟨fun hh => by omega, fun hh => by omega⟩), st.low⟩
      · refine XR_no rfl rfl ?_
        refine XR_no rfl rfl ?_
        refine XR_no rfl rfl ?_
        refine XR_no rfl rfl ?_
        refine XR_a (op_pick_f rfl rfl) rfl rfl ?_
        refine XR_a (op_move rfl) rfl rfl ?_
        refine XR_no rfl rfl ?_
        refine XR_no rfl rfl ?_
        refine XR_no rfl rfl ?_
        refine XR_no rfl rfl ?_
        refine XR_a (op_pick_f rfl rfl) rfl rfl ?_
        refine XR_a (op_move rfl) rfl rfl ?_
        refine XR_no rfl rfl ?_
        refine XR_no rfl rfl ?_
        refine XR_no rfl rfl ?_
        refine XR_no rfl rfl ?_
        refine XR_no rfl rfl ?_
        refine XR_a (op_pick_f rfl rfl) rfl rfl ?_
        refine XR_a (op_assign rfl) rfl rfl ?_
        refine XR_nil ?_
        refine X_ret (.cons (.tmp rfl) .nil) ?_
        first
          | exact ⟨congrArg Value.bool (decide_eq_false (by omega)).symm, st.low⟩
          | exact ⟨congrArg Value.bool (decide_eq_decide.2 ⟨fun hh => by omega, fun hh => by omega⟩), st.low⟩
    · refine XR_no rfl rfl ?_
      refine XR_no rfl rfl ?_
      refine XR_no rfl rfl ?_
      refine XR_no rfl rfl ?_
      refine XR_a (op_pick_f rfl rfl) rfl rfl ?_
      refine XR_a (op_assign rfl) rfl rfl ?_
      refine XR_nil ?_
      refine X_seq ?_
      refine X_reg ?_
      refine XR_a (op_move rfl) rfl rfl ?_
      refine XR_a (op_move rfl) rfl rfl ?_
      refine XR_no rfl rfl ?_
      refine XR_no rfl rfl ?_
      refine XR_no rfl rfl ?_
      refine XR_no rfl rfl ?_
      refine XR_a (op_pick_f rfl rfl) rfl rfl ?_
      refine XR_a (op_move rfl) rfl rfl ?_
      refine XR_no rfl rfl ?_
      refine XR_no rfl rfl ?_
      refine XR_no rfl rfl ?_
      refine XR_no rfl rfl ?_
      refine XR_a (op_pick_f rfl rfl) rfl rfl ?_
      refine XR_a (op_move rfl) rfl rfl ?_
      refine XR_no rfl rfl ?_
      refine XR_no rfl rfl ?_
      refine XR_no rfl rfl ?_
      refine XR_no rfl rfl ?_
      refine XR_no rfl rfl ?_
      refine XR_a (op_pick_f rfl rfl) rfl rfl ?_
      refine XR_a (op_assign rfl) rfl rfl ?_
      refine XR_nil ?_
      refine X_ret (.cons (.tmp rfl) .nil) ?_
      first
        | exact ⟨congrArg Value.bool (decide_eq_false (by omega)).symm, st.low⟩
        | exact ⟨congrArg Value.bool (decide_eq_decide.2 ⟨fun hh => by omega, fun hh => by omega⟩), st.low⟩
  · refine XR_no rfl rfl ?_
    refine XR_no rfl rfl ?_
    refine XR_no rfl rfl ?_
    refine XR_a (op_pick_f rfl rfl) rfl rfl ?_
    refine XR_a (op_move rfl) rfl rfl ?_
    refine XR_no rfl rfl ?_
    refine XR_no rfl rfl ?_
    refine XR_no rfl rfl ?_
    refine XR_no rfl rfl ?_
    refine XR_a (op_pick_f rfl rfl) rfl rfl ?_
    refine XR_a (op_assign rfl) rfl rfl ?_
    refine XR_nil ?_
    refine X_seq ?_
    refine X_reg ?_
    refine XR_a (op_move rfl) rfl rfl ?_
    refine XR_a (op_move rfl) rfl rfl ?_
    refine XR_no rfl rfl ?_
    refine XR_no rfl rfl ?_
    refine XR_no rfl rfl ?_
    refine XR_no rfl rfl ?_
    refine XR_a (op_pick_f rfl rfl) rfl rfl ?_
    refine XR_a (op_move rfl) rfl rfl ?_
    refine XR_no rfl rfl ?_
    refine XR_no rfl rfl ?_
    refine XR_no rfl rfl ?_
    refine XR_no rfl rfl ?_
    refine XR_a (op_pick_f rfl rfl) rfl rfl ?_
    refine XR_a (op_move rfl) rfl rfl ?_
    refine XR_no rfl rfl ?_
    refine XR_no rfl rfl ?_
    refine XR_no rfl rfl ?_
    refine XR_no rfl rfl ?_
    refine XR_no rfl rfl ?_
    refine XR_a (op_pick_f rfl rfl) rfl rfl ?_
    refine XR_a (op_assign rfl) rfl rfl ?_
    refine XR_nil ?_
    refine X_ret (.cons (.tmp rfl) .nil) ?_
    first
      | exact ⟨congrArg Value.bool (decide_eq_false (by omega)).symm, st.low⟩
      | exact ⟨congrArg Value.bool (decide_eq_decide.2 ⟨fun hh => by omega, fun hh => by omega⟩), st.low⟩

theorem right31_ref (s : Stp) (A K : Option Addr) (cd ck : Nat) (h0 : Heap) : Ret Try.prog 15 [.agg (stC s (.slice A s.data.length cd) (.slice K s.keep.length ck)).toArray] h0 fun v h' => v = .bool (decide s.right) ∧ Ext h0 h' := by
  have hs := str_size s.name
  refine ret_of_X Try.func15 rfl rfl fun w0 hw0 => ?_
  simp only [argE, Nat.zero_add, Nat.reduceAdd]
  have st := St.start h0
  simp only [Stp.right]
  refine X_seq ?_
  refine X_reg ?_
  refine XR_wa (opl_bx (cs := stC s (.slice A s.data.length cd) (.slice K s.keep.length ck)) rfl rfl) rfl rfl rfl ?_
  rintro _ hp ⟨p, rfl, hnew⟩
  replace st := st.new hnew
  refine XR_a (op_assign rfl) rfl rfl ?_
  refine XR_nil ?_
  refine X_seq ?_
  refine X_seq ?_
  refine X_reg ?_
  first | refine XR_a (op_field0 rfl rfl) rfl rfl ?_ | refine XR_a (op_fieldn rfl rfl) rfl rfl ?_
  refine XR_a (op_ld (st.cell 0 (i := 0) rfl rfl) rfl rfl rfl) rfl rfl ?_
  refine XR_a (op_lss rfl rfl) rfl rfl ?_
  refine XR_a (op_move rfl) rfl rfl ?_
  refine XR_if 6 rfl (fun h => ?_) (fun h => ?_)
  · refine XR_no rfl rfl ?_
    refine XR_no rfl rfl ?_
    refine XR_no rfl rfl ?_
    refine XR_a (op_pick_t rfl rfl) rfl rfl ?_
    refine XR_a (op_move rfl) rfl rfl ?_
    refine XR_no rfl rfl ?_
    refine XR_no rfl rfl ?_
    refine XR_no rfl rfl ?_
    refine XR_a (op_pick_t rfl rfl) rfl rfl ?_
    refine XR_a (op_move rfl) rfl rfl ?_
    refine XR_no rfl rfl ?_
    refine XR_no rfl rfl ?_
    refine XR_no rfl rfl ?_
    refine XR_a (op_pick_t rfl rfl) rfl rfl ?_
    refine XR_a (op_move rfl) rfl rfl ?_
    refine XR_no rfl rfl ?_
    refine XR_no rfl rfl ?_
    refine XR_no rfl rfl ?_
    refine XR_no rfl rfl ?_
    refine XR_a (op_pick_t rfl rfl) rfl rfl ?_
    refine XR_a (op_move rfl) rfl rfl ?_
    refine XR_no rfl rfl ?_
    refine XR_no rfl rfl ?_
    refine XR_no rfl rfl ?_
    refine XR_no rfl rfl ?_
    refine XR_a (op_pick_t rfl rfl) rfl rfl ?_
    refine XR_nil ?_
    refine X_then rfl ?_
    refine X_seq ?_
    refine X_reg ?_
    refine XR_a (op_assign rfl) rfl rfl ?_
    refine XR_nil ?_
    refine X_ret (.cons (.tmp rfl) .nil) ?_
    exact ⟨congrArg Value.bool (decide_eq_false (by omega)).symm, st.low⟩
  · first | refine XR_a (op_field0 rfl rfl) rfl rfl ?_ | refine XR_a (op_fieldn rfl rfl) rfl rfl ?_
    refine XR_a (op_ld (st.cell 0 (i := 0) rfl rfl) rfl rfl rfl) rfl rfl ?_
    refine XR_a (op_gtr rfl rfl) rfl rfl ?_
    refine XR_a (op_pick_f rfl rfl) rfl rfl ?_
    refine XR_a (op_move rfl) rfl rfl ?_
    refine XR_if 11 rfl (fun h => ?_) (fun h => ?_)
    · refine XR_no rfl rfl ?_
      refine XR_no rfl rfl ?_
      refine XR_no rfl rfl ?_
      refine XR_a (op_pick_t rfl rfl) rfl rfl ?_
      refine XR_a (op_move rfl) rfl rfl ?_
      refine XR_no rfl rfl ?_
      refine XR_no rfl rfl ?_
      refine XR_no rfl rfl ?_
      refine XR_a (op_pick_t rfl rfl) rfl rfl ?_
      refine XR_a (op_move rfl) rfl rfl ?_
      refine XR_no rfl rfl ?_
      refine XR_no rfl rfl ?_
      refine XR_no rfl rfl ?_
      refine XR_no rfl rfl ?_
      refine XR_a (op_pick_t rfl rfl) rfl rfl ?_
      refine XR_a (op_move rfl) rfl rfl ?_
      refine XR_no rfl rfl ?_
      refine XR_no rfl rfl ?_
      refine XR_no rfl rfl ?_
      refine XR_no rfl rfl ?_
      refine XR_a (op_pick_t rfl rfl) rfl rfl ?_
      refine XR_nil ?_
      refine X_then rfl ?_
      refine X_seq ?_
      refine X_reg ?_
      refine XR_a (op_assign rfl) rfl rfl ?_
      refine XR_nil ?_
      refine X_ret (.cons (.tmp rfl) .nil) ?_
      exact ⟨congrArg Value.bool (decide_eq_false (by omega)).symm, st.low⟩
    · first | refine XR_a (op_field0 rfl rfl) rfl rfl ?_ | refine XR_a (op_fieldn rfl rfl) rfl rfl ?_
      refine XR_a (op_ld (st.cell 0 (i := 3) rfl rfl) rfl rfl rfl) rfl rfl ?_
      refine XR_a (op_lss rfl rfl) rfl rfl ?_
      refine XR_a (op_pick_f rfl rfl) rfl rfl ?_
      refine XR_a (op_move rfl) rfl rfl ?_
      refine XR_if 16 rfl (fun h => ?_) (fun h => ?_)
      · refine XR_no rfl rfl ?_
        refine XR_no rfl rfl ?_
        refine XR_no rfl rfl ?_
        refine XR_a (op_pick_t rfl rfl) rfl rfl ?_
        refine XR_a (op_move rfl) rfl rfl ?_
        refine XR_no rfl rfl ?_
        refine XR_no rfl rfl ?_
        refine XR_no rfl rfl ?_
        refine XR_no rfl rfl ?_
        refine XR_a (op_pick_t rfl rfl) rfl rfl ?_
        refine XR_a (op_move rfl) rfl rfl ?_
        refine XR_no rfl rfl ?_
        refine XR_no rfl rfl ?_
        refine XR_no rfl rfl ?_
        refine XR_no rfl rfl ?_
        refine XR_a (op_pick_t rfl rfl) rfl rfl ?_
        refine XR_nil ?_
        refine X_then rfl ?_
        refine X_seq ?_
        refine X_reg ?_
        refine XR_a (op_assign rfl) rfl rfl ?_
        refine XR_nil ?_
        refine X_ret (.cons (.tmp rfl) .nil) ?_
        exact ⟨congrArg Value.bool (decide_eq_false (by omega)).symm, st.low⟩
      · first | refine XR_a (op_field0 rfl rfl) rfl rfl ?_ | refine XR_a (op_fieldn rfl rfl) rfl rfl ?_
        refine XR_a (op_ld (st.cell 0 (i := 3) rfl rfl) rfl rfl rfl) rfl rfl ?_
        refine XR_a (op_gtr rfl rfl) rfl rfl ?_
        refine XR_a (op_pick_f rfl rfl) rfl rfl ?_
        refine XR_a (op_move rfl) rfl rfl ?_
        refine XR_if 21 rfl (fun h => ?_) (fun h => ?_)
        · refine XR_no rfl rfl ?_
          refine XR_no rfl rfl ?_
          refine XR_no rfl rfl ?_
          refine XR_no rfl rfl ?_
          refine XR_a (op_pick_t rfl rfl) rfl rfl ?_
          refine XR_a (op_move rfl) rfl rfl ?_
          refine XR_no rfl rfl ?_
          refine XR_no rfl rfl ?_
          refine XR_no rfl rfl ?_
          refine XR_no rfl rfl ?_
          refine XR_a (op_pick_t rfl rfl) rfl rfl ?_
          refine XR_nil ?_
          refine X_then rfl ?_
          refine X_seq ?_
          refine X_reg ?_
          refine XR_a (op_assign rfl) rfl rfl ?_
          refine XR_nil ?_
          refine X_ret (.cons (.tmp rfl) .nil) ?_
          exact ⟨congrArg Value.bool (decide_eq_false (by omega)).symm, st.low⟩
        · first | refine XR_a (op_field0 rfl rfl) rfl rfl ?_ | refine XR_a (op_fieldn rfl rfl) rfl rfl ?_
          first | refine XR_a (op_field0 rfl rfl) rfl rfl ?_ | refine XR_a (op_fieldn rfl rfl) rfl rfl ?_
          refine XR_a (op_ld (st.cell 0 (i := 5) rfl rfl) rfl rfl rfl) rfl rfl ?_
          refine XR_a (op_lss rfl rfl) rfl rfl ?_
          refine XR_a (op_pick_f rfl rfl) rfl rfl ?_
          refine XR_a (op_move rfl) rfl rfl ?_
          refine XR_if 27 rfl (fun h => ?_) (fun h => ?_)
          · refine XR_no rfl rfl ?_
            refine XR_no rfl rfl ?_
            refine XR_no rfl rfl ?_
            refine XR_no rfl rfl ?_
            refine XR_a (op_pick_t rfl rfl) rfl rfl ?_
            refine XR_nil ?_
            refine X_then rfl ?_
            refine X_seq ?_
            refine X_reg ?_
            refine XR_a (op_assign rfl) rfl rfl ?_
            refine XR_nil ?_
            refine X_ret (.cons (.tmp rfl) .nil) ?_
            exact ⟨congrArg Value.bool (decide_eq_false (by omega)).symm, st.low⟩
          · first | refine XR_a (op_field0 rfl rfl) rfl rfl ?_ | refine XR_a (op_fieldn rfl rfl) rfl rfl ?_
            first | refine XR_a (op_field0 rfl rfl) rfl rfl ?_ | refine XR_a (op_fieldn rfl rfl) rfl rfl ?_
            refine XR_a (op_ld (st.cell 0 (i := 5) rfl rfl) rfl rfl rfl) rfl rfl ?_
            refine XR_a (op_gtr rfl rfl) rfl rfl ?_
            refine XR_a (op_pick_f rfl rfl) rfl rfl ?_
            refine XR_nil ?_
            refine X_if rfl (fun h => ?_) (fun h => ?_)
            · refine X_seq ?_
              refine X_reg ?_
              refine XR_a (op_assign rfl) rfl rfl ?_
              refine XR_nil ?_
              refine X_ret (.cons (.tmp rfl) .nil) ?_
              exact ⟨congrArg Value.bool (decide_eq_false (by omega)).symm, st.low⟩
            · refine X_skip ?_
              refine X_seq ?_
              refine X_reg ?_
              first | refine XR_a (op_field0 rfl rfl) rfl rfl ?_ | refine XR_a (op_fieldn rfl rfl) rfl rfl ?_
              refine XR_a (op_ld (st.cell 0 (i := 1) rfl rfl) rfl rfl rfl) rfl rfl ?_
              refine XR_a (op_lenS rfl rfl rfl) rfl rfl ?_
              refine XR_a (op_lss rfl rfl) rfl rfl ?_
              refine XR_a (op_move rfl) rfl rfl ?_
              refine XR_if 37 rfl (fun h => ?_) (fun h => ?_)
              · first | refine XR_a (op_field0 rfl rfl) rfl rfl ?_ | refine XR_a (op_fieldn rfl rfl) rfl rfl ?_
                refine XR_a (op_ld (st.cell 0 (i := 2) rfl rfl) rfl rfl rfl) rfl rfl ?_
                refine XR_a (op_len rfl rfl rfl) rfl rfl ?_
                refine XR_a (op_lss rfl rfl) rfl rfl ?_
                refine XR_a (op_pick_t rfl rfl) rfl rfl ?_
                refine XR_a (op_move rfl) rfl rfl ?_
                refine XR_if 43 rfl (fun h => ?_) (fun h => ?_)
                · first | refine XR_a (op_field0 rfl rfl) rfl rfl ?_ | refine XR_a (op_fieldn rfl rfl) rfl rfl ?_
                  first | refine XR_a (op_field0 rfl rfl) rfl rfl ?_ | refine XR_a (op_fieldn rfl rfl) rfl rfl ?_
                  refine XR_a (op_ld (st.cell 0 (i := 4) rfl rfl) rfl rfl rfl) rfl rfl ?_
                  refine XR_a (op_len rfl rfl rfl) rfl rfl ?_
                  refine XR_a (op_lss rfl rfl) rfl rfl ?_
                  refine XR_a (op_pick_t rfl rfl) rfl rfl ?_
                  refine XR_a (op_assign rfl) rfl rfl ?_
                  refine XR_nil ?_
                  refine X_ret (.cons (.tmp rfl) .nil) ?_
                  first
                    | exact ⟨congrArg Value.bool (decide_eq_false (by omega)).symm, st.low⟩
                    | exact ⟨congrArg Value.bool (decide_eq_decide.2 ⟨fun hh => by omega, fun hh => by omega⟩), st.low⟩
                · refine XR_no rfl rfl ?_
                  refine XR_no rfl rfl ?_
                  refine XR_no rfl rfl ?_
                  refine XR_no rfl rfl ?_
                  refine XR_no rfl rfl ?_
                  refine XR_a (op_pick_f rfl rfl) rfl rfl ?_
                  refine XR_a (op_assign rfl) rfl rfl ?_
                  refine XR_nil ?_
                  refine X_ret (.cons (.tmp rfl) .nil) ?_
                  first
                    | exact ⟨congrArg Value.bool (decide_eq_false (by omega)).symm, st.low⟩
                    | exact ⟨congrArg Value.bool (decide_eq_decide.2 ⟨fun hh => by omega, fun hh => by omega⟩), st.low⟩
              · refine XR_no rfl rfl ?_
                refine XR_no rfl rfl ?_
                refine XR_no rfl rfl ?_
                refine XR_no rfl rfl ?_
                refine XR_a (op_pick_f rfl rfl) rfl rfl ?_
                refine XR_a (op_move rfl) rfl rfl ?_
                refine XR_no rfl rfl ?_
                refine XR_no rfl rfl ?_
                refine XR_no rfl rfl ?_
                refine XR_no rfl rfl ?_
                refine XR_no rfl rfl ?_
                refine XR_a (op_pick_f rfl rfl) rfl rfl ?_
                refine XR_a (op_assign rfl) rfl rfl ?_
                refine XR_nil ?_
                refine X_ret (.cons (.tmp rfl) .nil) ?_
                first
                  | exact ⟨congrArg Value.bool (decide_eq_false (by omega)).symm, st.low⟩
                  | exact ⟨congrArg Value.bool (decide_eq_decide.2 ⟨fun hh => by omega, fun hh => by omega⟩), st.low⟩
end Go.Bn
