/- Packed texts of a claim: what its theorem uses, joined. -/
import Derived.Test.YtoodeecmplpndaaGreatPkBpt8
section
set_option linter.unusedVariables false
set_option linter.unusedSimpArgs false
set_option maxHeartbeats 4000000
set_option maxRecDepth 20000
namespace Go.Bn
open Go Proofs
theorem tin_spec (a b c : Int) (h0 : Heap) : Ret Tryz.prog 142 [.int .i64 a, .int .i64 b, .int .i64 c] h0 fun r h' => r = .bool (decide (b ≤ a ∧ a ≤ c)) ∧ h0 = h' := by
  refine ret_of_X Tryz.func142 rfl rfl fun w0 hw0 => ?_
  simp only [argE, Nat.zero_add, Nat.reduceAdd]
  refine X_seq ?_
  refine X_reg ?_
  refine XR_a (op_assign rfl) rfl rfl ?_
  refine XR_nil ?_
  refine X_seq ?_
  refine X_reg ?_
  refine XR_a (op_move rfl) rfl rfl ?_
  refine XR_a (op_move rfl) rfl rfl ?_
  refine XR_a (op_geq rfl rfl) rfl rfl ?_
  refine XR_a (op_move rfl) rfl rfl ?_
  refine XR_if 10 rfl (fun h => ?_) (fun h => ?_)
  · refine XR_a (op_move rfl) rfl rfl ?_
    refine XR_a (op_move rfl) rfl rfl ?_
    refine XR_a (op_leq rfl rfl) rfl rfl ?_
    refine XR_a (op_pick_t rfl rfl) rfl rfl ?_
    refine XR_a (op_assign rfl) rfl rfl ?_
    refine XR_nil ?_
    refine X_ret (.cons (.tmp rfl) .nil) ?_
    first
      | exact ⟨congrArg Value.bool (decide_eq_false (by omega)).symm, rfl⟩
      | exact ⟨congrArg Value.bool (decide_eq_decide.2 ⟨fun hh => by omega, fun hh => by omega⟩), rfl⟩
  · refine XR_no rfl rfl ?_
    refine XR_no rfl rfl ?_
    refine XR_no rfl rfl ?_
    refine XR_a (op_pick_f rfl rfl) rfl rfl ?_
    refine XR_a (op_assign rfl) rfl rfl ?_
    refine XR_nil ?_
    refine X_ret (.cons (.tmp rfl) .nil) ?_
    first
      | exact ⟨congrArg Value.bool (decide_eq_false (by omega)).symm, rfl⟩
      | exact ⟨congrArg Value.bool (decide_eq_decide.2 ⟨fun hh => by omega, fun hh => by omega⟩), rfl⟩
theorem tright_spec (t : Tok) (h0 : Heap) : Ret Tryz.prog 114 [.agg #[.int .u8 t.byte, .int .i64 t.len, .int .i64 t.dist]] h0 fun r h' => r = .bool (decide t.right) ∧ Ext h0 h' := by
  refine ret_of_X Tryz.func114 rfl rfl fun w0 hw0 => ?_
  simp only [argE, Nat.zero_add, Nat.reduceAdd]
  have st := St.start h0
  unfold Tok.right
  refine X_seq ?_
  refine X_reg ?_
  refine XR_wa (opl_bx rfl rfl) rfl rfl rfl ?_
  rintro _ hp ⟨p, rfl, hnew⟩
  have st := st.new hnew
  refine XR_a (op_assign rfl) rfl rfl ?_
  refine XR_nil ?_
  refine X_seq ?_
  refine X_seq ?_
  refine X_reg ?_
  first | refine XR_a (op_field0 rfl rfl) rfl rfl ?_ | refine XR_a (op_fieldn rfl rfl) rfl rfl ?_
  refine XR_a (op_ld (st.cell 0 (i := 1) rfl rfl) rfl rfl rfl) rfl rfl ?_
  refine XR_a (op_eql rfl rfl) rfl rfl ?_
  refine XR_nil ?_
  refine X_if rfl (fun h => ?_) (fun h => ?_)
  · refine X_seq ?_
    refine X_reg ?_
    first | refine XR_a (op_field0 rfl rfl) rfl rfl ?_ | refine XR_a (op_fieldn rfl rfl) rfl rfl ?_
    refine XR_a (op_ld (st.cell 0 (i := 2) rfl rfl) rfl rfl rfl) rfl rfl ?_
    refine XR_a (op_eql rfl rfl) rfl rfl ?_
    refine XR_a (op_assign rfl) rfl rfl ?_
    refine XR_nil ?_
    refine X_ret (.cons (.tmp rfl) .nil) ?_
    refine ⟨congrArg Value.bool (decide_eq_decide.2 ?_), st.low⟩
    rw [if_pos h]
  · have hlen := h
    refine X_skip ?_
    refine X_seq ?_
    refine X_reg ?_
    first | refine XR_a (op_field0 rfl rfl) rfl rfl ?_ | refine XR_a (op_fieldn rfl rfl) rfl rfl ?_
    refine XR_a (op_ld (st.cell 0 (i := 0) rfl rfl) rfl rfl rfl) rfl rfl ?_
    refine XR_a (op_eql rfl rfl) rfl rfl ?_
    refine XR_a (op_move rfl) rfl rfl ?_
    refine XR_if 12 rfl (fun h => ?_) (fun h => ?_)
    · first | refine XR_a (op_field0 rfl rfl) rfl rfl ?_ | refine XR_a (op_fieldn rfl rfl) rfl rfl ?_
      refine XR_a (op_ld (st.cell 0 (i := 1) rfl rfl) rfl rfl rfl) rfl rfl ?_
      refine XR_wa (opl_call (tin_spec _ _ _ _) rfl (by kernel_rfl)) rfl rfl rfl ?_
      rintro _ _ ⟨rfl, rfl⟩
      refine XR_a (op_pick_t rfl rfl) rfl rfl ?_
      refine XR_a (op_move rfl) rfl rfl ?_
      refine XR_if 17 rfl (fun h => ?_) (fun h => ?_)
      · first | refine XR_a (op_field0 rfl rfl) rfl rfl ?_ | refine XR_a (op_fieldn rfl rfl) rfl rfl ?_
        refine XR_a (op_ld (st.cell 0 (i := 2) rfl rfl) rfl rfl rfl) rfl rfl ?_
        refine XR_wa (opl_call (tin_spec _ _ _ _) rfl (by kernel_rfl)) rfl rfl rfl ?_
        rintro _ _ ⟨rfl, rfl⟩
        refine XR_a (op_pick_t rfl rfl) rfl rfl ?_
        refine XR_a (op_assign rfl) rfl rfl ?_
        refine XR_nil ?_
        refine X_ret (.cons (.tmp rfl) .nil) ?_
        refine ⟨congrArg Value.bool (decide_eq_decide.2 ?_), st.low⟩
        rw [if_neg hlen]
        rename_i hb
        exact ⟨fun hh => ⟨hb, h.1, h.2, hh.1, hh.2⟩, fun hh => ⟨hh.2.2.2.1, hh.2.2.2.2⟩⟩
      · refine XR_no rfl rfl ?_
        refine XR_no rfl rfl ?_
        refine XR_no rfl rfl ?_
        refine XR_a (op_pick_f rfl rfl) rfl rfl ?_
        refine XR_a (op_assign rfl) rfl rfl ?_
        refine XR_nil ?_
        refine X_ret (.cons (.tmp rfl) .nil) ?_
        refine ⟨congrArg Value.bool (decide_eq_false ?_).symm, st.low⟩
        rw [if_neg hlen]
        rintro ⟨h1, h2, h3, h4⟩; exact h ⟨h2, h3⟩
    · refine XR_no rfl rfl ?_
      refine XR_no rfl rfl ?_
      refine XR_no rfl rfl ?_
      refine XR_a (op_pick_f rfl rfl) rfl rfl ?_
      refine XR_a (op_move rfl) rfl rfl ?_
      refine XR_no rfl rfl ?_
      refine XR_no rfl rfl ?_
      refine XR_no rfl rfl ?_
      refine XR_a (op_pick_f rfl rfl) rfl rfl ?_
      refine XR_a (op_assign rfl) rfl rfl ?_
      refine XR_nil ?_
      refine X_ret (.cons (.tmp rfl) .nil) ?_
      refine ⟨congrArg Value.bool (decide_eq_false ?_).symm, st.low⟩
      rw [if_neg hlen]
      rintro ⟨h1, _⟩; exact h h1
theorem tright_ref (t : Tok) (h0 : Heap) : Ret Tryz.prog 46 [.agg #[.int .u8 t.byte, .int .i64 t.len, .int .i64 t.dist]] h0 fun r h' => r = .bool (decide t.right) ∧ Ext h0 h' := by
  refine ret_of_X Tryz.func46 rfl rfl fun w0 hw0 => ?_
  simp only [argE, Nat.zero_add, Nat.reduceAdd]
  have st := St.start h0
  unfold Tok.right
  refine X_seq ?_
  refine X_reg ?_
  refine XR_wa (opl_bx rfl rfl) rfl rfl rfl ?_
  rintro _ hp ⟨p, rfl, hnew⟩
  have st := st.new hnew
  refine XR_a (op_assign rfl) rfl rfl ?_
  refine XR_nil ?_
  refine X_seq ?_
  refine X_seq ?_
  refine X_reg ?_
  first | refine XR_a (op_field0 rfl rfl) rfl rfl ?_ | refine XR_a (op_fieldn rfl rfl) rfl rfl ?_
  refine XR_a (op_ld (st.cell 0 (i := 1) rfl rfl) rfl rfl rfl) rfl rfl ?_
  refine XR_a (op_eql rfl rfl) rfl rfl ?_
  refine XR_a (op_move rfl) rfl rfl ?_
  refine XR_if 6 rfl (fun h => ?_) (fun h => ?_)
  · first | refine XR_a (op_field0 rfl rfl) rfl rfl ?_ | refine XR_a (op_fieldn rfl rfl) rfl rfl ?_
    refine XR_a (op_ld (st.cell 0 (i := 2) rfl rfl) rfl rfl rfl) rfl rfl ?_
    refine XR_a (op_eql rfl rfl) rfl rfl ?_
    refine XR_a (op_pick_t rfl rfl) rfl rfl ?_
    refine XR_nil ?_
    refine X_if rfl (fun h => ?_) (fun h => ?_)
    · refine X_seq ?_
      refine X_reg ?_
      refine XR_a (op_assign rfl) rfl rfl ?_
      refine XR_nil ?_
      refine X_ret (.cons (.tmp rfl) .nil) ?_
      refine ⟨congrArg Value.bool (decide_eq_true ?_).symm, st.low⟩
      rw [if_pos (by omega)]; omega
    · refine X_skip ?_
      refine X_seq ?_
      refine X_reg ?_
      first | refine XR_a (op_field0 rfl rfl) rfl rfl ?_ | refine XR_a (op_fieldn rfl rfl) rfl rfl ?_
      refine XR_a (op_ld (st.cell 0 (i := 0) rfl rfl) rfl rfl rfl) rfl rfl ?_
      refine XR_a (op_eql rfl rfl) rfl rfl ?_
      refine XR_a (op_move rfl) rfl rfl ?_
      refine XR_if 14 rfl (fun h => ?_) (fun h => ?_)
      · first | refine XR_a (op_field0 rfl rfl) rfl rfl ?_ | refine XR_a (op_fieldn rfl rfl) rfl rfl ?_
        refine XR_a (op_ld (st.cell 0 (i := 1) rfl rfl) rfl rfl rfl) rfl rfl ?_
        refine XR_a (op_gtr rfl rfl) rfl rfl ?_
        refine XR_a (op_pick_t rfl rfl) rfl rfl ?_
        refine XR_a (op_move rfl) rfl rfl ?_
        refine XR_if 19 rfl (fun h => ?_) (fun h => ?_)
        · first | refine XR_a (op_field0 rfl rfl) rfl rfl ?_ | refine XR_a (op_fieldn rfl rfl) rfl rfl ?_
          refine XR_a (op_ld (st.cell 0 (i := 1) rfl rfl) rfl rfl rfl) rfl rfl ?_
          refine XR_a (op_lss rfl rfl) rfl rfl ?_
          refine XR_a (op_pick_t rfl rfl) rfl rfl ?_
          refine XR_a (op_move rfl) rfl rfl ?_
          refine XR_if 24 rfl (fun h => ?_) (fun h => ?_)
          · first | refine XR_a (op_field0 rfl rfl) rfl rfl ?_ | refine XR_a (op_fieldn rfl rfl) rfl rfl ?_
            refine XR_a (op_ld (st.cell 0 (i := 2) rfl rfl) rfl rfl rfl) rfl rfl ?_
            refine XR_a (op_gtr rfl rfl) rfl rfl ?_
            refine XR_a (op_pick_t rfl rfl) rfl rfl ?_
            refine XR_a (op_move rfl) rfl rfl ?_
            refine XR_if 29 rfl (fun h => ?_) (fun h => ?_)
            · first | refine XR_a (op_field0 rfl rfl) rfl rfl ?_ | refine XR_a (op_fieldn rfl rfl) rfl rfl ?_
              refine XR_a (op_ld (st.cell 0 (i := 2) rfl rfl) rfl rfl rfl) rfl rfl ?_
              refine XR_a (op_lss rfl rfl) rfl rfl ?_
              refine XR_a (op_pick_t rfl rfl) rfl rfl ?_
              refine XR_a (op_assign rfl) rfl rfl ?_
              refine XR_nil ?_
              refine X_ret (.cons (.tmp rfl) .nil) ?_
              refine ⟨congrArg Value.bool ?_, st.low⟩
              first
                | (refine (decide_eq_false ?_).symm
                   intro hh
                   split at hh <;> omega)
                | (refine decide_eq_decide.2 ⟨fun hh => ?_, fun hh => ?_⟩
                   · rw [if_neg (by omega)]; omega
                   · split at hh <;> omega)
            · refine XR_no rfl rfl ?_
              refine XR_no rfl rfl ?_
              refine XR_no rfl rfl ?_
              refine XR_a (op_pick_f rfl rfl) rfl rfl ?_
              refine XR_a (op_assign rfl) rfl rfl ?_
              refine XR_nil ?_
              refine X_ret (.cons (.tmp rfl) .nil) ?_
              refine ⟨congrArg Value.bool ?_, st.low⟩
              first
                | (refine (decide_eq_false ?_).symm
                   intro hh
                   split at hh <;> omega)
                | (refine decide_eq_decide.2 ⟨fun hh => ?_, fun hh => ?_⟩
                   · rw [if_neg (by omega)]; omega
                   · split at hh <;> omega)
          · refine XR_no rfl rfl ?_
            refine XR_no rfl rfl ?_
            refine XR_no rfl rfl ?_
            refine XR_a (op_pick_f rfl rfl) rfl rfl ?_
            refine XR_a (op_move rfl) rfl rfl ?_
            refine XR_no rfl rfl ?_
            refine XR_no rfl rfl ?_
            refine XR_no rfl rfl ?_
            refine XR_a (op_pick_f rfl rfl) rfl rfl ?_
            refine XR_a (op_assign rfl) rfl rfl ?_
            refine XR_nil ?_
            refine X_ret (.cons (.tmp rfl) .nil) ?_
            refine ⟨congrArg Value.bool ?_, st.low⟩
            first
              | (refine (decide_eq_false ?_).symm
                 intro hh
                 split at hh <;> omega)
              | (refine decide_eq_decide.2 ⟨fun hh => ?_, fun hh => ?_⟩
                 · rw [if_neg (by omega)]; omega
                 · split at hh <;> omega)
        · refine XR_no rfl rfl ?_
          refine XR_no rfl rfl ?_
          refine XR_no rfl rfl ?_
          refine XR_a (op_pick_f rfl rfl) rfl rfl ?_
          refine XR_a (op_move rfl) rfl rfl ?_
          refine XR_no rfl rfl ?_
          refine XR_no rfl rfl ?_
          refine XR_no rfl rfl ?_
          refine XR_a (op_pick_f rfl rfl) rfl rfl ?_
          refine XR_a (op_move rfl) rfl rfl ?_
          refine XR_no rfl rfl ?_
          refine XR_no rfl rfl ?_
          refine XR_no rfl rfl ?_
          refine XR_a (op_pick_f rfl rfl) rfl rfl ?_
          refine XR_a (op_assign rfl) rfl rfl ?_
          refine XR_nil ?_
          refine X_ret (.cons (.tmp rfl) .nil) ?_
          refine ⟨congrArg Value.bool ?_, st.low⟩
          first
            | (refine (decide_eq_false ?_).symm
               intro hh
               split at hh <;> omega)
            | (refine decide_eq_decide.2 ⟨fun hh => ?_, fun hh => ?_⟩
               · rw [if_neg (by omega)]; omega
               · split at hh <;> omega)
      · refine XR_no rfl rfl ?_
        refine XR_no rfl rfl ?_
        refine XR_no rfl rfl ?_
        refine XR_a (op_pick_f rfl rfl) rfl rfl ?_
        refine XR_a (op_move rfl) rfl rfl ?_
        refine XR_no rfl rfl ?_
        refine XR_no rfl rfl ?_
        refine XR_no rfl rfl ?_
        refine XR_a (op_pick_f rfl rfl) rfl rfl ?_
        refine XR_a (op_move rfl) rfl rfl ?_
        refine XR_no rfl rfl ?_
        refine XR_no rfl rfl ?_
        refine XR_no rfl rfl ?_
        refine XR_a (op_pick_f rfl rfl) rfl rfl ?_
        refine XR_a (op_move rfl) rfl rfl ?_
        refine XR_no rfl rfl ?_
        refine XR_no rfl rfl ?_
        refine XR_no rfl rfl ?_
        refine XR_a (op_pick_f rfl rfl) rfl rfl ?_
        refine XR_a (op_assign rfl) rfl rfl ?_
        refine XR_nil ?_
        refine X_ret (.cons (.tmp rfl) .nil) ?_
        refine ⟨congrArg Value.bool ?_, st.low⟩
        first
          | (refine (decide_eq_false ?_).symm
             intro hh
             split at hh <;> omega)
          | (refine decide_eq_decide.2 ⟨fun hh => ?_, fun hh => ?_⟩
             · rw [if_neg (by omega)]; omega
             · split at hh <;> omega)
  · refine XR_no rfl rfl ?_
    refine XR_no rfl rfl ?_
    refine XR_no rfl rfl ?_
    refine XR_a (op_pick_f rfl rfl) rfl rfl ?_
    refine XR_nil ?_
    refine X_else rfl ?_
    refine X_skip ?_
    refine X_seq ?_
    refine X_reg ?_
    first | refine XR_a (op_field0 rfl rfl) rfl rfl ?_ | refine XR_a (op_fieldn rfl rfl) rfl rfl ?_
    refine XR_a (op_ld (st.cell 0 (i := 0) rfl rfl) rfl rfl rfl) rfl rfl ?_
    refine XR_a (op_eql rfl rfl) rfl rfl ?_
    refine XR_a (op_move rfl) rfl rfl ?_
    refine XR_if 14 rfl (fun h => ?_) (fun h => ?_)
    · first | refine XR_a (op_field0 rfl rfl) rfl rfl ?_ | refine XR_a (op_fieldn rfl rfl) rfl rfl ?_
      refine XR_a (op_ld (st.cell 0 (i := 1) rfl rfl) rfl rfl rfl) rfl rfl ?_
      refine XR_a (op_gtr rfl rfl) rfl rfl ?_
      refine XR_a (op_pick_t rfl rfl) rfl rfl ?_
      refine XR_a (op_move rfl) rfl rfl ?_
      refine XR_if 19 rfl (fun h => ?_) (fun h => ?_)
      · first | refine XR_a (op_field0 rfl rfl) rfl rfl ?_ | refine XR_a (op_fieldn rfl rfl) rfl rfl ?_
        refine XR_a (op_ld (st.cell 0 (i := 1) rfl rfl) rfl rfl rfl) rfl rfl ?_
        refine XR_a (op_lss rfl rfl) rfl rfl ?_
        refine XR_a (op_pick_t rfl rfl) rfl rfl ?_
        refine XR_a (op_move rfl) rfl rfl ?_
        refine XR_if 24 rfl (fun h => ?_) (fun h => ?_)
        · first | refine XR_a (op_field0 rfl rfl) rfl rfl ?_ | refine XR_a (op_fieldn rfl rfl) rfl rfl ?_
          refine XR_a (op_ld (st.cell 0 (i := 2) rfl rfl) rfl rfl rfl) rfl rfl ?_
          refine XR_a (op_gtr rfl rfl) rfl rfl ?_
          refine XR_a (op_pick_t rfl rfl) rfl rfl ?_
          refine XR_a (op_move rfl) rfl rfl ?_
          refine XR_if 29 rfl (fun h => ?_) (fun h => ?_)
          · first | refine XR_a (op_field0 rfl rfl) rfl rfl ?_ | refine XR_a (op_fieldn rfl rfl) rfl rfl ?_
            refine XR_a (op_ld (st.cell 0 (i := 2) rfl rfl) rfl rfl rfl) rfl rfl ?_
            refine XR_a (op_lss rfl rfl) rfl rfl ?_
            refine XR_a (op_pick_t rfl rfl) rfl rfl ?_
            refine XR_a (op_assign rfl) rfl rfl ?_
            refine XR_nil ?_
            refine X_ret (.cons (.tmp rfl) .nil) ?_
            refine ⟨congrArg Value.bool ?_, st.low⟩
            first
              | (refine (decide_eq_false ?_).symm
                 intro hh
                 split at hh <;> omega)
              | (refine decide_eq_decide.2 ⟨fun hh => ?_, fun hh => ?_⟩
                 · rw [if_neg (by omega)]; omega
                 · split at hh <;> omega)
          · refine XR_no rfl rfl ?_
            refine XR_no rfl rfl ?_
            refine XR_no rfl rfl ?_
            refine XR_a (op_pick_f rfl rfl) rfl rfl ?_
            refine XR_a (op_assign rfl) rfl rfl ?_
            refine XR_nil ?_
            refine X_ret (.cons (.tmp rfl) .nil) ?_
            refine ⟨congrArg Value.bool ?_, st.low⟩
            first
              | (refine (decide_eq_false ?_).symm
                 intro hh
                 split at hh <;> omega)
              | (refine decide_eq_decide.2 ⟨fun hh => ?_, fun hh => ?_⟩
                 · rw [if_neg (by omega)]; omega
                 · split at hh <;> omega)
        · refine XR_no rfl rfl ?_
          refine XR_no rfl rfl ?_
          refine XR_no rfl rfl ?_
          refine XR_a (op_pick_f rfl rfl) rfl rfl ?_
          refine XR_a (op_move rfl) rfl rfl ?_
          refine XR_no rfl rfl ?_
          refine XR_no rfl rfl ?_
          refine XR_no rfl rfl ?_
          refine XR_a (op_pick_f rfl rfl) rfl rfl ?_
          refine XR_a (op_assign rfl) rfl rfl ?_
          refine XR_nil ?_
          refine X_ret (.cons (.tmp rfl) .nil) ?_
          refine ⟨congrArg Value.bool ?_, st.low⟩
          first
            | (refine (decide_eq_false ?_).symm
               intro hh
               split at hh <;> omega)
            | (refine decide_eq_decide.2 ⟨fun hh => ?_, fun hh => ?_⟩
               · rw [if_neg (by omega)]; omega
               · split at hh <;> omega)
      · refine XR_no rfl rfl ?_
        refine XR_no rfl rfl ?_
        refine XR_no rfl rfl ?_
        refine XR_a (op_pick_f rfl rfl) rfl rfl ?_
        refine XR_a (op_move rfl) rfl rfl ?_
        refine XR_no rfl rfl ?_
        refine XR_no rfl rfl ?_
        refine XR_no rfl rfl ?_
        refine XR_a (op_pick_f rfl rfl) rfl rfl ?_
        refine XR_a (op_move rfl) rfl rfl ?_
        refine XR_no rfl rfl ?_
        refine XR_no rfl rfl ?_
        refine XR_no rfl rfl ?_
        refine XR_a (op_pick_f rfl rfl) rfl rfl ?_
        refine XR_a (op_assign rfl) rfl rfl ?_
        refine XR_nil ?_
        refine X_ret (.cons (.tmp rfl) .nil) ?_
        refine ⟨congrArg Value.bool ?_, st.low⟩
        first
          | (refine (decide_eq_false ?_).symm
             intro hh
             split at hh <;> omega)
          | (refine decide_eq_decide.2 ⟨fun hh => ?_, fun hh => ?_⟩
             · rw [if_neg (by omega)]; omega
             · split at hh <;> omega)
    · refine XR_no rfl rfl ?_
      refine XR_no rfl rfl ?_
      refine XR_no rfl rfl ?_
      refine XR_a (op_pick_f rfl rfl) rfl rfl ?_
      refine XR_a (op_move rfl) rfl rfl ?_
      refine XR_no rfl rfl ?_
      refine XR_no rfl rfl ?_
      refine XR_no rfl rfl ?_
      refine XR_a (op_pick_f rfl rfl) rfl rfl ?_
      refine XR_a (op_move rfl) rfl rfl ?_
      refine XR_no rfl rfl ?_
      refine XR_no rfl rfl ?_
      refine XR_no rfl rfl ?_
      refine XR_a (op_pick_f rfl rfl) rfl rfl ?_
      refine XR_a (op_move rfl) rfl rfl ?_
      refine XR_no rfl rfl ?_
      refine XR_no rfl rfl ?_
      refine XR_no rfl rfl ?_
      refine XR_a (op_pick_f rfl rfl) rfl rfl ?_
      refine XR_a (op_assign rfl) rfl rfl ?_
      refine XR_nil ?_
      refine X_ret (.cons (.tmp rfl) .nil) ?_
      refine ⟨congrArg Value.bool ?_, st.low⟩
      first
        | (refine (decide_eq_false ?_).symm
           intro hh
           split at hh <;> omega)
        | (refine decide_eq_decide.2 ⟨fun hh => ?_, fun hh => ?_⟩
           · rw [if_neg (by omega)]; omega
           · split at hh <;> omega)
theorem ssplit_spec {t : Tok} (hb : 0 ≤ t.byte ∧ t.byte < 256) (h0 : Heap) : Ret Tryz.prog 77 [.agg #[.int .u8 t.byte, .int .i64 t.len, .int .i64 t.dist]] h0 fun r h' => r = retVal [.agg (syV (splitT t).1).toArray, .bool (splitT t).2] ∧ Ext h0 h' := by
  refine ret_of_X Tryz.func77 rfl rfl fun w0 hw0 => ?_
  simp only [argE, Nat.zero_add, Nat.reduceAdd]
  have st := St.start h0
  refine X_seq ?_
  refine X_reg ?_
  refine XR_wa (opl_bx rfl rfl) rfl rfl rfl ?_
  rintro _ hp ⟨p, rfl, hnew⟩
  have st := st.new hnew
  refine XR_wa (opl_new rfl) rfl rfl rfl ?_
  rintro _ hp ⟨pp1, rfl, hnew⟩
  replace st := st.new hnew
  refine XR_a (op_assign rfl) rfl rfl ?_
  refine XR_nil ?_
  refine X_seq ?_
  refine X_seq ?_
  refine X_reg ?_
  refine XR_a (op_ldA (st.cells 1 rfl) rfl rfl rfl rfl) rfl rfl ?_
  refine XR_wa (opl_call (tright_spec t _) rfl (by kernel_rfl)) rfl rfl rfl ?_
  rintro _ hp ⟨rfl, hx⟩
  replace st := st.ext hx
  first | refine XR_a (op_notd rfl) rfl rfl ?_ | refine XR_a (op_not rfl) rfl rfl ?_
  refine XR_nil ?_
  refine X_if rfl (fun h => ?_) (fun h => ?_)
  · refine X_seq ?_
    refine X_reg ?_
    refine XR_a (op_build (ps := []) (cs := (syV Sy.nil).toArray) rfl rfl) rfl rfl ?_
    refine XR_wn (opl_store_whole (us := syV Sy.nil) st 0 rfl rfl rfl rfl rfl (syV_one _) rfl) rfl rfl fun _ hp st => ?_
    simp only [List.set_cons_zero, List.set_cons_succ] at st
    refine XR_a (op_assign rfl) rfl rfl ?_
    refine XR_nil ?_
    refine X_ret (.cons (RV_agg (vs := syV Sy.nil) rfl rfl rfl (st.cells 0 rfl)) (.cons (.tmp rfl) .nil)) ?_
    have e : splitT t = (Sy.nil, false) := by unfold splitT; rw [if_neg h]
    rw [e]
    exact ⟨rfl, st.low⟩
  · have hr := Decidable.not_not.1 h
    have e : splitT t = (splitY t, true) := by unfold splitT; rw [if_pos hr]
    rw [e]
    refine X_skip ?_
    refine X_seq ?_
    refine X_seq ?_
    refine X_reg ?_
    first | refine XR_a (op_field0 rfl rfl) rfl rfl ?_ | refine XR_a (op_fieldn rfl rfl) rfl rfl ?_
    refine XR_a (op_ld (st.cell 1 (i := 1) rfl rfl) rfl rfl rfl) rfl rfl ?_
    refine XR_a (op_eql rfl rfl) rfl rfl ?_
    refine XR_nil ?_
    refine X_if rfl (fun h => ?_) (fun h => ?_)
    · have e1 : splitY t = ⟨⟨t.byte, 0, 0⟩, Kls.nil, false⟩ := by unfold splitY; rw [if_pos h]
      rw [e1]
      refine X_seq ?_
      refine X_reg ?_
      first | refine XR_a (op_field0 rfl rfl) rfl rfl ?_ | refine XR_a (op_fieldn rfl rfl) rfl rfl ?_
      refine XR_a (op_ld (st.cell 1 (i := 0) rfl rfl) rfl rfl rfl) rfl rfl ?_
      refine XR_a (op_conv rfl rfl) rfl rfl ?_
      refine XR_as (.int .i64 t.byte) (by rw [wrap_in (by simp only [inK]; omega)]) ?_
      refine XR_a (op_build (ps := [(0, .int .i64 t.byte)]) (cs := (clsV ⟨t.byte, 0, 0⟩).toArray) rfl rfl) rfl rfl ?_
      refine XR_a (op_build (ps := [(0, .agg (clsV ⟨t.byte, 0, 0⟩).toArray)]) (cs := (syV ⟨⟨t.byte, 0, 0⟩, Kls.nil, false⟩).toArray) rfl rfl) rfl rfl ?_
      refine XR_wn (opl_store_whole (us := syV ⟨⟨t.byte, 0, 0⟩, Kls.nil, false⟩) st 0 rfl rfl rfl rfl rfl (syV_one _) rfl) rfl rfl fun _ hp st => ?_
      simp only [List.set_cons_zero, List.set_cons_succ] at st
      refine XR_a (op_assign rfl) rfl rfl ?_
      refine XR_nil ?_
      refine X_ret (.cons (RV_agg (vs := syV ⟨⟨t.byte, 0, 0⟩, Kls.nil, false⟩) rfl rfl rfl (st.cells 0 rfl)) (.cons (.tmp rfl) .nil)) ?_
      exact ⟨rfl, st.low⟩
    · have hr' := hr
      unfold Tok.right at hr'
      rw [if_neg h] at hr'
      obtain ⟨r1, r2, r3, r4, r5⟩ := hr'
      have e1 : splitY t = ⟨⟨(klsOf (t.len - 3).toNat).num + 257, (klsOf (t.len - 3).toNat).bits, (klsOf (t.len - 3).toNat).ext⟩, klsOf (t.dist - 1).toNat, true⟩ := by unfold splitY; rw [if_neg h]
      have o1 : ofC (t.len - 3) = (klsOf (t.len - 3).toNat, true) := by unfold ofC; rw [if_neg (by omega)]
      have o2 : ofC (t.dist - 1) = (klsOf (t.dist - 1).toNat, true) := by unfold ofC; rw [if_neg (by omega)]
      have k1 := klsN_255 (v := (t.len - 3).toNat) (by omega)
      have n1 : (klsOf (t.len - 3).toNat).num = klsN (t.len - 3).toNat := rfl
      rw [e1]
      refine X_skip ?_
      refine X_seq ?_
      refine X_reg ?_
      first | refine XR_a (op_field0 rfl rfl) rfl rfl ?_ | refine XR_a (op_fieldn rfl rfl) rfl rfl ?_
      refine XR_a (op_ld (st.cell 1 (i := 1) rfl rfl) rfl rfl rfl) rfl rfl ?_
      refine XR_a (op_subI rfl rfl (by simp only [inK]; omega)) rfl rfl ?_
      refine XR_wa (opl_call (sof_spec _) rfl (by kernel_rfl)) rfl rfl rfl ?_
      rintro _ hp ⟨rfl, hx⟩
      replace st := st.ext hx
      rw [o1]
      generalize klsOf (t.len - 3).toNat = a at *
      generalize klsOf (t.dist - 1).toNat = b at *
      refine XR_a (op_move rfl) rfl rfl ?_
      refine XR_a (op_extract rfl rfl) rfl rfl ?_
      refine XR_a (op_extract rfl rfl) rfl rfl ?_
      refine XR_wa (opl_new rfl) rfl rfl rfl ?_
      rintro _ hp ⟨pp2, rfl, hnew⟩
      replace st := st.new hnew
      refine XR_wn (opl_store_whole (us := clsV a) st 0 rfl rfl rfl rfl rfl (clsV_one _) rfl) rfl rfl fun _ hp st => ?_
      simp only [List.set_cons_zero, List.set_cons_succ] at st
      refine XR_a (op_assign rfl) rfl rfl ?_
      refine XR_nil ?_
      refine X_seq ?_
      refine X_reg ?_
      first | refine XR_a (op_field0 rfl rfl) rfl rfl ?_ | refine XR_a (op_fieldn rfl rfl) rfl rfl ?_
      refine XR_a (op_ld (st.cell 2 (i := 2) rfl rfl) rfl rfl rfl) rfl rfl ?_
      refine XR_a (op_subI rfl rfl (by simp only [inK]; omega)) rfl rfl ?_
      refine XR_wa (opl_call (sof_spec _) rfl (by kernel_rfl)) rfl rfl rfl ?_
      rintro _ hp ⟨rfl, hx⟩
      replace st := st.ext hx
      rw [o2]
      refine XR_a (op_move rfl) rfl rfl ?_
      refine XR_a (op_extract rfl rfl) rfl rfl ?_
      refine XR_a (op_extract rfl rfl) rfl rfl ?_
      refine XR_wa (opl_new rfl) rfl rfl rfl ?_
      rintro _ hp ⟨pp3, rfl, hnew⟩
      replace st := st.new hnew
      refine XR_wn (opl_store_whole (us := clsV b) st 0 rfl rfl rfl rfl rfl (clsV_one _) rfl) rfl rfl fun _ hp st => ?_
      simp only [List.set_cons_zero, List.set_cons_succ] at st
      refine XR_a (op_assign rfl) rfl rfl ?_
      refine XR_nil ?_
      refine X_seq ?_
      refine X_reg ?_
      first | refine XR_a (op_field0 rfl rfl) rfl rfl ?_ | refine XR_a (op_fieldn rfl rfl) rfl rfl ?_
      refine XR_a (op_ld (st.cell 1 (i := 0) rfl rfl) rfl rfl rfl) rfl rfl ?_
      refine XR_a (op_addI rfl rfl (by simp only [inK]; omega)) rfl rfl ?_
      first | refine XR_a (op_field0 rfl rfl) rfl rfl ?_ | refine XR_a (op_fieldn rfl rfl) rfl rfl ?_
      refine XR_wn (opl_store_pt st 1 rfl rfl rfl rfl rfl (rfl)) rfl rfl fun _ hp st => ?_
      simp only [List.set_cons_zero, List.set_cons_succ] at st
      refine XR_nil ?_
      refine X_seq ?_
      refine X_reg ?_
      refine XR_a (op_ldA (vs := clsV ⟨a.num + 257, a.bits, a.ext⟩) (st.cells 1 rfl) rfl rfl rfl rfl) rfl rfl ?_
      refine XR_a (op_ldA (vs := clsV b) (st.cells 0 rfl) rfl rfl rfl rfl) rfl rfl ?_
      refine XR_a (op_build (ps := [(0, .agg (clsV ⟨a.num + 257, a.bits, a.ext⟩).toArray), (1, .agg (clsV b).toArray), (2, .bool true)]) (cs := (syV ⟨⟨a.num + 257, a.bits, a.ext⟩, b, true⟩).toArray) rfl rfl) rfl rfl ?_
      refine XR_wn (opl_store_whole (us := syV ⟨⟨a.num + 257, a.bits, a.ext⟩, b, true⟩) st 2 rfl rfl rfl rfl rfl (syV_one _) rfl) rfl rfl fun _ hp st => ?_
      simp only [List.set_cons_zero, List.set_cons_succ] at st
      refine XR_a (op_assign rfl) rfl rfl ?_
      refine XR_nil ?_
      refine X_ret (.cons (RV_agg (vs := syV ⟨⟨a.num + 257, a.bits, a.ext⟩, b, true⟩) rfl rfl rfl (st.cells 2 rfl)) (.cons (.tmp rfl) .nil)) ?_
      exact ⟨rfl, st.low⟩
theorem split_ref {t : Tok} (hr : t.right) (hb : 0 ≤ t.byte ∧ t.byte < 256) (h0 : Heap) : Ret Tryz.prog 50 [.agg #[.int .u8 t.byte, .int .i64 t.len, .int .i64 t.dist]] h0 fun r h' => r = retVal [.agg (clsV (splitY t).a).toArray, .agg (clsV (splitY t).b).toArray, .bool (splitY t).m] ∧ Ext h0 h' := by
  refine ret_of_X Tryz.func50 rfl rfl fun w0 hw0 => ?_
  simp only [argE, Nat.zero_add, Nat.reduceAdd]
  have st := St.start h0
  refine X_seq ?_
  refine X_reg ?_
  refine XR_wa (opl_bx rfl rfl) rfl rfl rfl ?_
  rintro _ hp ⟨p, rfl, hnew⟩
  have st := st.new hnew
  refine XR_wa (opl_new rfl) rfl rfl rfl ?_
  rintro _ hp ⟨pp1, rfl, hnew⟩
  replace st := st.new hnew
  refine XR_wa (opl_new rfl) rfl rfl rfl ?_
  rintro _ hp ⟨pp2, rfl, hnew⟩
  replace st := st.new hnew
  refine XR_a (op_assign rfl) rfl rfl ?_
  refine XR_nil ?_
  refine X_seq ?_
  refine X_seq ?_
  refine X_reg ?_
  first | refine XR_a (op_field0 rfl rfl) rfl rfl ?_ | refine XR_a (op_fieldn rfl rfl) rfl rfl ?_
  refine XR_a (op_ld (st.cell 2 (i := 1) rfl rfl) rfl rfl rfl) rfl rfl ?_
  refine XR_a (op_eql rfl rfl) rfl rfl ?_
  refine XR_nil ?_
  refine X_if rfl (fun h => ?_) (fun h => ?_)
  · have e1 : splitY t = ⟨⟨t.byte, 0, 0⟩, Kls.nil, false⟩ := by unfold splitY; rw [if_pos h]
    rw [e1]
    refine X_seq ?_
    refine X_reg ?_
    first | refine XR_a (op_field0 rfl rfl) rfl rfl ?_ | refine XR_a (op_fieldn rfl rfl) rfl rfl ?_
    refine XR_a (op_ld (st.cell 2 (i := 0) rfl rfl) rfl rfl rfl) rfl rfl ?_
    refine XR_a (op_conv rfl rfl) rfl rfl ?_
    refine XR_as (.int .i64 t.byte) (by rw [wrap_in (by simp only [inK]; omega)]) ?_
    refine XR_a (op_build (ps := [(0, .int .i64 t.byte)]) (cs := (clsV ⟨t.byte, 0, 0⟩).toArray) rfl rfl) rfl rfl ?_
    refine XR_a (op_build (ps := []) (cs := (clsV Kls.nil).toArray) rfl rfl) rfl rfl ?_
    refine XR_wn (opl_store_whole (us := clsV ⟨t.byte, 0, 0⟩) st 1 rfl rfl rfl rfl rfl (clsV_one _) rfl) rfl rfl fun _ hp st => ?_
    simp only [List.set_cons_zero, List.set_cons_succ] at st
    refine XR_wn (opl_store_whole (us := clsV Kls.nil) st 0 rfl rfl rfl rfl rfl (clsV_one _) rfl) rfl rfl fun _ hp st => ?_
    simp only [List.set_cons_zero, List.set_cons_succ] at st
    refine XR_a (op_assign rfl) rfl rfl ?_
    refine XR_nil ?_
    refine X_ret (.cons (RV_agg (vs := clsV ⟨t.byte, 0, 0⟩) rfl rfl rfl (st.cells 1 rfl)) (.cons (RV_agg (vs := clsV Kls.nil) rfl rfl rfl (st.cells 0 rfl)) (.cons (.tmp rfl) .nil))) ?_
    exact ⟨rfl, st.low⟩
  · have hr' := hr
    unfold Tok.right at hr'
    rw [if_neg h] at hr'
    obtain ⟨r1, r2, r3, r4, r5⟩ := hr'
    have e1 : splitY t = ⟨⟨(klsOf (t.len - 3).toNat).num + 257, (klsOf (t.len - 3).toNat).bits, (klsOf (t.len - 3).toNat).ext⟩, klsOf (t.dist - 1).toNat, true⟩ := by unfold splitY; rw [if_neg h]
    have k1 := klsN_255 (v := (t.len - 3).toNat) (by omega)
    have n1 : (klsOf (t.len - 3).toNat).num = klsN (t.len - 3).toNat := rfl
    rw [e1]
    obtain ⟨x, hx⟩ : ∃ x : Nat, t.len - 3 = x := ⟨(t.len - 3).toNat, by omega⟩
    obtain ⟨y, hy⟩ : ∃ y : Nat, t.dist - 1 = y := ⟨(t.dist - 1).toNat, by omega⟩
    have ex : (t.len - 3).toNat = x := by omega
    have ey : (t.dist - 1).toNat = y := by omega
    rw [ex] at k1 n1
    rw [ex, ey]
    refine X_skip ?_
    refine X_seq ?_
    refine X_reg ?_
    first | refine XR_a (op_field0 rfl rfl) rfl rfl ?_ | refine XR_a (op_fieldn rfl rfl) rfl rfl ?_
    refine XR_a (op_ld (st.cell 2 (i := 1) rfl rfl) rfl rfl rfl) rfl rfl ?_
    refine XR_a (op_subI rfl rfl (by simp only [inK]; omega)) rfl rfl ?_
    rw [hx]
    refine XR_wa (opl_call (of_ref (v := x) (by omega) _) rfl (by kernel_rfl)) rfl rfl rfl ?_
    rintro _ hp ⟨rfl, hx1⟩
    replace st := st.ext hx1
    generalize klsOf x = a at *
    refine XR_wa (opl_new rfl) rfl rfl rfl ?_
    rintro _ hp ⟨pp3, rfl, hnew⟩
    replace st := st.new hnew
    refine XR_wn (opl_store_whole (us := clsV a) st 0 rfl rfl rfl rfl rfl (clsV_one _) rfl) rfl rfl fun _ hp st => ?_
    simp only [List.set_cons_zero, List.set_cons_succ] at st
    refine XR_nil ?_
    refine X_seq ?_
    refine X_reg ?_
    first | refine XR_a (op_field0 rfl rfl) rfl rfl ?_ | refine XR_a (op_fieldn rfl rfl) rfl rfl ?_
    refine XR_a (op_ld (st.cell 0 (i := 0) rfl rfl) rfl rfl rfl) rfl rfl ?_
    refine XR_a (op_addI rfl rfl (by simp only [inK]; omega)) rfl rfl ?_
    first | refine XR_a (op_field0 rfl rfl) rfl rfl ?_ | refine XR_a (op_fieldn rfl rfl) rfl rfl ?_
    refine XR_wn (opl_store_pt st 0 rfl rfl rfl rfl rfl (rfl)) rfl rfl fun _ hp st => ?_
    simp only [List.set_cons_zero, List.set_cons_succ] at st
    refine XR_nil ?_
    refine X_seq ?_
    refine X_draw (butAt [(4, .grow)]) (by kernel_rfl) (by kernel_rfl) ?_
    refine XR_a (op_ldA (vs := clsV ⟨a.num + 257, a.bits, a.ext⟩) (st.cells 0 rfl) rfl rfl rfl rfl) rfl rfl ?_
    first | refine XR_a (op_field0 rfl rfl) rfl rfl ?_ | refine XR_a (op_fieldn rfl rfl) rfl rfl ?_
    refine XR_a (op_ld (st.cell 3 (i := 2) rfl rfl) rfl rfl rfl) rfl rfl ?_
    refine XR_a (op_subI rfl rfl (by simp only [inK]; omega)) rfl rfl ?_
    rw [hy]
    refine XR_ga (opl_call (of_ref (v := y) (by omega) _) rfl (by kernel_rfl)) rfl rfl rfl (fun _ _ h => h.2) ?_
    rintro _ hp ⟨rfl, hx2⟩
    replace st := st.ext hx2
    generalize klsOf y = b at *
    refine XR_wn (opl_store_whole (us := clsV ⟨a.num + 257, a.bits, a.ext⟩) st 2 rfl rfl rfl rfl rfl (clsV_one _) rfl) rfl rfl fun _ hp st => ?_
    simp only [List.set_cons_zero, List.set_cons_succ] at st
    refine XR_wn (opl_store_whole (us := clsV b) st 1 rfl rfl rfl rfl rfl (clsV_one _) rfl) rfl rfl fun _ hp st => ?_
    simp only [List.set_cons_zero, List.set_cons_succ] at st
    refine XR_a (op_assign rfl) rfl rfl ?_
    refine XR_nil ?_
    refine X_ret (.cons (RV_agg (vs := clsV ⟨a.num + 257, a.bits, a.ext⟩) rfl rfl rfl (st.cells 2 rfl)) (.cons (RV_agg (vs := clsV b) rfl rfl rfl (st.cells 1 rfl)) (.cons (.tmp rfl) .nil))) ?_
    exact ⟨rfl, st.low⟩
end Go.Bn
end

section
set_option linter.unusedVariables false
set_option linter.unusedSimpArgs false
set_option maxHeartbeats 4000000
set_option maxRecDepth 20000
namespace Go.Bn
open Go Proofs
theorem valP_bd {c : Kls} : 0 ≤ (valP c).1 ∧ (valP c).1 < 65536 := by
  unfold valP
  split
  · rename_i v hv; have := valC_lt hv; simp only; omega
  · simp
theorem matchT_eq (a b : Kls) (m : Bool) : matchT ⟨a, b, m⟩ = if (valP ⟨a.num - 257, a.bits, a.ext⟩).2 = true ∧ (valP b).2 = true ∧ (Tok.mk 0 ((valP ⟨a.num - 257, a.bits, a.ext⟩).1 + 3) ((valP b).1 + 1)).right then (Tok.mk 0 ((valP ⟨a.num - 257, a.bits, a.ext⟩).1 + 3) ((valP b).1 + 1), true) else (Tok.nil, false) := by
  unfold matchT valP
  simp only
  cases hx : valC ⟨a.num - 257, a.bits, a.ext⟩ with
  | none => simp
  | some x =>
    cases hy : valC b with
    | none => simp
    | some y => simp
theorem smatch_spec {a b : Kls} {m : Bool} (ha : 0 ≤ a.ext ∧ a.ext < 4294967296) (hb : 0 ≤ b.ext ∧ b.ext < 4294967296) (hn : 257 ≤ a.num ∧ a.num < 273) (h0 : Heap) : Ret Tryz.prog 110 [.agg #[.int .i64 a.num, .int .i64 a.bits, .int .u32 a.ext, .int .i64 b.num, .int .i64 b.bits, .int .u32 b.ext, .bool m]] h0 fun r h' => r = retVal [.agg (tokV (matchT ⟨a, b, m⟩).1).toArray, .bool (matchT ⟨a, b, m⟩).2] ∧ Ext h0 h' := by
  rw [matchT_eq]
  have bx := valP_bd (c := ⟨a.num - 257, a.bits, a.ext⟩)
  have by_ := valP_bd (c := b)
  refine ret_of_X Tryz.func110 rfl rfl fun w0 hw0 => ?_
  simp only [argE, Nat.zero_add, Nat.reduceAdd]
  have st := St.start h0
  refine X_seq ?_
  refine X_reg ?_
  refine XR_wa (opl_bx rfl rfl) rfl rfl rfl ?_
  rintro _ hp ⟨p, rfl, hnew⟩
  have st := st.new hnew
  refine XR_wa (opl_new rfl) rfl rfl rfl ?_
  rintro _ hp ⟨pp1, rfl, hnew⟩
  replace st := st.new hnew
  refine XR_a (op_assign rfl) rfl rfl ?_
  refine XR_nil ?_
  refine X_seq ?_
  refine X_reg ?_
  first | refine XR_a (op_field0 rfl rfl) rfl rfl ?_ | refine XR_a (op_fieldn rfl rfl) rfl rfl ?_
  refine XR_a (op_ldA (st.part 1 0 [] (clsV a) (clsV b ++ [.bool m]) rfl rfl) rfl rfl rfl rfl) rfl rfl ?_
  refine XR_wa (opl_new rfl) rfl rfl rfl ?_
  rintro _ hp ⟨pp2, rfl, hnew⟩
  replace st := st.new hnew
  refine XR_wn (opl_store_whole (us := clsV a) st 0 rfl rfl rfl rfl rfl (clsV_one _) rfl) rfl rfl fun _ hp st => ?_
  simp only [List.set_cons_zero, List.set_cons_succ] at st
  refine XR_nil ?_
  refine X_seq ?_
  refine X_reg ?_
  first | refine XR_a (op_field0 rfl rfl) rfl rfl ?_ | refine XR_a (op_fieldn rfl rfl) rfl rfl ?_
  refine XR_a (op_ld (st.cell 0 (i := 0) rfl rfl) rfl rfl rfl) rfl rfl ?_
  refine XR_a (op_subI rfl rfl (by simp only [inK]; omega)) rfl rfl ?_
  first | refine XR_a (op_field0 rfl rfl) rfl rfl ?_ | refine XR_a (op_fieldn rfl rfl) rfl rfl ?_
  refine XR_wn (opl_store_pt st 0 rfl rfl rfl rfl rfl (rfl)) rfl rfl fun _ hp st => ?_
  simp only [List.set_cons_zero, List.set_cons_succ] at st
  refine XR_nil ?_
  refine X_seq ?_
  refine X_reg ?_
  refine XR_a (op_ldA (vs := clsV ⟨a.num - 257, a.bits, a.ext⟩) (st.cells 0 rfl) rfl rfl rfl rfl) rfl rfl ?_
  refine XR_wa (opl_call (sval_spec (c := ⟨a.num - 257, a.bits, a.ext⟩) ha _) rfl (by kernel_rfl)) rfl rfl rfl ?_
  rintro _ hp ⟨rfl, hx1⟩
  replace st := st.ext hx1
  refine XR_a (op_move rfl) rfl rfl ?_
  refine XR_a (op_extract rfl rfl) rfl rfl ?_
  refine XR_a (op_extract rfl rfl) rfl rfl ?_
  refine XR_a (op_assign rfl) rfl rfl ?_
  refine XR_a (op_assign rfl) rfl rfl ?_
  refine XR_nil ?_
  refine X_seq ?_
  refine X_reg ?_
  first | refine XR_a (op_field0 rfl rfl) rfl rfl ?_ | refine XR_a (op_fieldn rfl rfl) rfl rfl ?_
  refine XR_a (op_ldA (st.part 2 3 (clsV a) (clsV b) [.bool m] rfl rfl) rfl rfl rfl rfl) rfl rfl ?_
  refine XR_wa (opl_call (sval_spec (c := b) hb _) rfl (by kernel_rfl)) rfl rfl rfl ?_
  rintro _ hp ⟨rfl, hx2⟩
  replace st := st.ext hx2
  generalize valP ⟨a.num - 257, a.bits, a.ext⟩ = X at *
  generalize valP b = Y at *
  refine XR_a (op_move rfl) rfl rfl ?_
  refine XR_a (op_extract rfl rfl) rfl rfl ?_
  refine XR_a (op_extract rfl rfl) rfl rfl ?_
  refine XR_a (op_assign rfl) rfl rfl ?_
  refine XR_a (op_assign rfl) rfl rfl ?_
  refine XR_nil ?_
  refine X_seq ?_
  refine X_reg ?_
  refine XR_a (op_move rfl) rfl rfl ?_
  refine XR_a (op_addI rfl rfl (by simp only [inK]; omega)) rfl rfl ?_
  refine XR_a (op_move rfl) rfl rfl ?_
  refine XR_a (op_addI rfl rfl (by simp only [inK]; omega)) rfl rfl ?_
  refine XR_a (op_build (ps := [(1, .int .i64 (X.1 + 3)), (2, .int .i64 (Y.1 + 1))]) (cs := (tokV ⟨0, X.1 + 3, Y.1 + 1⟩).toArray) rfl rfl) rfl rfl ?_
  generalize Tok.mk 0 (X.1 + 3) (Y.1 + 1) = T at *
  refine XR_wa (opl_new rfl) rfl rfl rfl ?_
  rintro _ hp ⟨pp3, rfl, hnew⟩
  replace st := st.new hnew
  by_cases hX : X.2 = true
  · have st := st
    refine XR_wn (opl_store_whole (us := tokV T) st 0 rfl rfl rfl rfl rfl (tokV_one _) rfl) rfl rfl fun _ hp st => ?_
    simp only [List.set_cons_zero, List.set_cons_succ] at st
    refine XR_nil ?_
    refine X_seq ?_
    refine X_seq ?_
    refine X_reg ?_
    refine XR_a (op_move rfl) rfl rfl ?_
    by_cases hY : Y.2 = true
    · have st := st
      refine XR_a (op_not rfl) rfl rfl ?_
      refine XR_as (.bool false) (by rw [hX]; rfl) ?_
      refine XR_a (op_move rfl) rfl rfl ?_
      refine XR_a (op_move rfl) rfl rfl ?_
      refine XR_a (op_not rfl) rfl rfl ?_
      refine XR_as (.bool false) (by rw [hY]; rfl) ?_
      refine XR_a (op_pick_f rfl rfl) rfl rfl ?_
      refine XR_a (op_move rfl) rfl rfl ?_
      refine XR_a (op_ldA (st.cells 0 rfl) rfl rfl rfl rfl) rfl rfl ?_
      refine XR_wa (opl_call (tright_spec T _) rfl (by kernel_rfl)) rfl rfl rfl ?_
      rintro _ hp ⟨rfl, hx3⟩
      replace st := st.ext hx3
      first | refine XR_a (op_notd rfl) rfl rfl ?_ | refine XR_a (op_not rfl) rfl rfl ?_
      refine XR_a (op_pick_f rfl rfl) rfl rfl ?_
      refine XR_nil ?_
      refine X_if rfl (fun h => ?_) (fun h => ?_)
      · refine X_seq ?_
        refine X_reg ?_
        refine XR_a (op_build (ps := []) (cs := (tokV Tok.nil).toArray) rfl rfl) rfl rfl ?_
        refine XR_wn (opl_store_whole (us := tokV Tok.nil) st 2 rfl rfl rfl rfl rfl (tokV_one _) rfl) rfl rfl fun _ hp st => ?_
        simp only [List.set_cons_zero, List.set_cons_succ] at st
        refine XR_a (op_assign rfl) rfl rfl ?_
        refine XR_nil ?_
        refine X_ret (.cons (RV_agg (vs := tokV Tok.nil) rfl rfl rfl (st.cells 2 rfl)) (.cons (.tmp rfl) .nil)) ?_
        rw [if_neg (fun hh => h hh.2.2)]
        exact ⟨rfl, st.low⟩
      · refine X_skip ?_
        refine X_seq ?_
        refine X_reg ?_
        refine XR_a (op_ldA (st.cells 0 rfl) rfl rfl rfl rfl) rfl rfl ?_
        refine XR_wn (opl_store_whole (us := tokV T) st 2 rfl rfl rfl rfl rfl (tokV_one _) rfl) rfl rfl fun _ hp st => ?_
        simp only [List.set_cons_zero, List.set_cons_succ] at st
        refine XR_a (op_assign rfl) rfl rfl ?_
        refine XR_nil ?_
        refine X_ret (.cons (RV_agg (vs := tokV T) rfl rfl rfl (st.cells 2 rfl)) (.cons (.tmp rfl) .nil)) ?_
        rw [if_pos ⟨hX, hY, Decidable.not_not.1 h⟩]
        exact ⟨rfl, st.low⟩
    · have hY' : Y.2 = false := by simpa using hY
      refine XR_a (op_not rfl) rfl rfl ?_
      refine XR_as (.bool false) (by rw [hX]; rfl) ?_
      refine XR_a (op_move rfl) rfl rfl ?_
      refine XR_a (op_move rfl) rfl rfl ?_
      refine XR_a (op_not rfl) rfl rfl ?_
      refine XR_as (.bool true) (by rw [hY']; rfl) ?_
      refine XR_a (op_pick_f rfl rfl) rfl rfl ?_
      refine XR_a (op_move rfl) rfl rfl ?_
      refine XR_no rfl rfl ?_
      refine XR_no rfl rfl ?_
      refine XR_no rfl rfl ?_
      refine XR_a (op_pick_t rfl rfl) rfl rfl ?_
      refine XR_nil ?_
      refine X_then rfl ?_
      refine X_seq ?_
      refine X_reg ?_
      refine XR_a (op_build (ps := []) (cs := (tokV Tok.nil).toArray) rfl rfl) rfl rfl ?_
      refine XR_wn (opl_store_whole (us := tokV Tok.nil) st 2 rfl rfl rfl rfl rfl (tokV_one _) rfl) rfl rfl fun _ hp st => ?_
      simp only [List.set_cons_zero, List.set_cons_succ] at st
      refine XR_a (op_assign rfl) rfl rfl ?_
      refine XR_nil ?_
      refine X_ret (.cons (RV_agg (vs := tokV Tok.nil) rfl rfl rfl (st.cells 2 rfl)) (.cons (.tmp rfl) .nil)) ?_
      rw [if_neg (fun hh => hY hh.2.1)]
      exact ⟨rfl, st.low⟩
  · have hX' : X.2 = false := by simpa using hX
    refine XR_wn (opl_store_whole (us := tokV T) st 0 rfl rfl rfl rfl rfl (tokV_one _) rfl) rfl rfl fun _ hp st => ?_
    simp only [List.set_cons_zero, List.set_cons_succ] at st
    refine XR_nil ?_
    refine X_seq ?_
    refine X_seq ?_
    refine X_reg ?_
    refine XR_a (op_move rfl) rfl rfl ?_
    refine XR_a (op_not rfl) rfl rfl ?_
    refine XR_as (.bool true) (by rw [hX']; rfl) ?_
    refine XR_a (op_move rfl) rfl rfl ?_
    refine XR_no rfl rfl ?_
    refine XR_no rfl rfl ?_
    refine XR_a (op_pick_t rfl rfl) rfl rfl ?_
    refine XR_a (op_move rfl) rfl rfl ?_
    refine XR_no rfl rfl ?_
    refine XR_no rfl rfl ?_
    refine XR_no rfl rfl ?_
    refine XR_a (op_pick_t rfl rfl) rfl rfl ?_
    refine XR_nil ?_
    refine X_then rfl ?_
    refine X_seq ?_
    refine X_reg ?_
    refine XR_a (op_build (ps := []) (cs := (tokV Tok.nil).toArray) rfl rfl) rfl rfl ?_
    refine XR_wn (opl_store_whole (us := tokV Tok.nil) st 2 rfl rfl rfl rfl rfl (tokV_one _) rfl) rfl rfl fun _ hp st => ?_
    simp only [List.set_cons_zero, List.set_cons_succ] at st
    refine XR_a (op_assign rfl) rfl rfl ?_
    refine XR_nil ?_
    refine X_ret (.cons (RV_agg (vs := tokV Tok.nil) rfl rfl rfl (st.cells 2 rfl)) (.cons (.tmp rfl) .nil)) ?_
    rw [if_neg (fun hh => hX hh.1)]
    exact ⟨rfl, st.low⟩
theorem joinT_m {a b : Kls} (h : 257 ≤ a.num ∧ a.num < 273) : joinT ⟨a, b, true⟩ = matchT ⟨a, b, true⟩ := by
  unfold joinT; rw [if_pos rfl, if_pos h]
theorem joinT_m0 {a b : Kls} (h : ¬ (257 ≤ a.num ∧ a.num < 273)) : joinT ⟨a, b, true⟩ = (Tok.nil, false) := by
  unfold joinT; rw [if_pos rfl, if_neg h]
theorem joinT_b {a b : Kls} (h : 0 ≤ a.num ∧ a.num < 256) (e : Sy.mk a b false = ⟨⟨a.num, 0, 0⟩, Kls.nil, false⟩) : joinT ⟨a, b, false⟩ = (⟨a.num, 0, 0⟩, true) := by
  unfold joinT; rw [if_neg (by simp), if_pos ⟨h.1, h.2, e⟩]
theorem joinT_b0 {a b : Kls} (h : ¬ (0 ≤ a.num ∧ a.num < 256 ∧ Sy.mk a b false = ⟨⟨a.num, 0, 0⟩, Kls.nil, false⟩)) : joinT ⟨a, b, false⟩ = (Tok.nil, false) := by
  unfold joinT; rw [if_neg (by simp), if_neg h]
theorem sy_plain {a b : Kls} : Sy.mk a b false = ⟨⟨a.num, 0, 0⟩, Kls.nil, false⟩ ↔ a.bits = 0 ∧ a.ext = 0 ∧ b.num = 0 ∧ b.bits = 0 ∧ b.ext = 0 := by
  obtain ⟨_, _, _⟩ := a
  obtain ⟨_, _, _⟩ := b
  simp [Kls.nil, and_assoc]
theorem sjoin_t {a b : Kls} (ha : 0 ≤ a.ext ∧ a.ext < 4294967296) (hb : 0 ≤ b.ext ∧ b.ext < 4294967296) (h0 : Heap) : Ret Tryz.prog 68 [.agg #[.int .i64 a.num, .int .i64 a.bits, .int .u32 a.ext, .int .i64 b.num, .int .i64 b.bits, .int .u32 b.ext, .bool true]] h0 fun r h' => r = retVal [.agg (tokV (joinT ⟨a, b, true⟩).1).toArray, .bool (joinT ⟨a, b, true⟩).2] ∧ Ext h0 h' := by
  refine ret_of_X Tryz.func68 rfl rfl fun w0 hw0 => ?_
  simp only [argE, Nat.zero_add, Nat.reduceAdd]
  have st := St.start h0
  refine X_seq ?_
  refine X_reg ?_
  refine XR_wa (opl_bx rfl rfl) rfl rfl rfl ?_
  rintro _ hp ⟨p, rfl, hnew⟩
  have st := st.new hnew
  refine XR_wa (opl_new rfl) rfl rfl rfl ?_
  rintro _ hp ⟨pp1, rfl, hnew⟩
  replace st := st.new hnew
  refine XR_a (op_assign rfl) rfl rfl ?_
  refine XR_nil ?_
  refine X_seq ?_
  refine X_seq ?_
  refine X_reg ?_
  first | refine XR_a (op_field0 rfl rfl) rfl rfl ?_ | refine XR_a (op_fieldn rfl rfl) rfl rfl ?_
  refine XR_a (op_ld (st.cell 1 (i := 6) rfl rfl) rfl rfl rfl) rfl rfl ?_
  refine XR_a (op_move rfl) rfl rfl ?_
  first | refine XR_a (op_field0 rfl rfl) rfl rfl ?_ | refine XR_a (op_fieldn rfl rfl) rfl rfl ?_
  first | refine XR_a (op_field0 rfl rfl) rfl rfl ?_ | refine XR_a (op_fieldn rfl rfl) rfl rfl ?_
  refine XR_a (op_ld (st.cell 1 (i := 0) rfl rfl) rfl rfl rfl) rfl rfl ?_
  refine XR_a (op_geq rfl rfl) rfl rfl ?_
  refine XR_a (op_pick_t rfl rfl) rfl rfl ?_
  refine XR_a (op_move rfl) rfl rfl ?_
  refine XR_if 13 rfl (fun h => ?_) (fun h => ?_)
  · first | refine XR_a (op_field0 rfl rfl) rfl rfl ?_ | refine XR_a (op_fieldn rfl rfl) rfl rfl ?_
    first | refine XR_a (op_field0 rfl rfl) rfl rfl ?_ | refine XR_a (op_fieldn rfl rfl) rfl rfl ?_
    refine XR_a (op_ld (st.cell 1 (i := 0) rfl rfl) rfl rfl rfl) rfl rfl ?_
    refine XR_a (op_lss rfl rfl) rfl rfl ?_
    refine XR_a (op_pick_t rfl rfl) rfl rfl ?_
    refine XR_nil ?_
    refine X_if rfl (fun h => ?_) (fun h => ?_)
    · rw [joinT_m (by omega)]
      refine X_seq ?_
      refine X_reg ?_
      refine XR_a (op_ldA (vs := syV ⟨a, b, true⟩) (st.cells 1 rfl) rfl rfl rfl rfl) rfl rfl ?_
      refine XR_wa (opl_call (smatch_spec (a := a) (b := b) (m := true) ha hb (by omega) _) rfl (by kernel_rfl)) rfl rfl rfl ?_
      rintro _ hp ⟨rfl, hx1⟩
      replace st := st.ext hx1
      generalize matchT ⟨a, b, true⟩ = M at *
      refine XR_a (op_extract rfl rfl) rfl rfl ?_
      refine XR_a (op_extract rfl rfl) rfl rfl ?_
      refine XR_wn (opl_store_whole (us := tokV M.1) st 0 rfl rfl rfl rfl rfl (tokV_one _) rfl) rfl rfl fun _ hp st => ?_
      simp only [List.set_cons_zero, List.set_cons_succ] at st
      refine XR_a (op_assign rfl) rfl rfl ?_
      refine XR_nil ?_
      refine X_ret (.cons (RV_agg (vs := tokV M.1) rfl rfl rfl (st.cells 0 rfl)) (.cons (.tmp rfl) .nil)) ?_
      exact ⟨rfl, st.low⟩
    · refine X_skip ?_
      refine X_seq ?_
      refine X_reg ?_
      first | refine XR_a (op_field0 rfl rfl) rfl rfl ?_ | refine XR_a (op_fieldn rfl rfl) rfl rfl ?_
      first | refine XR_a (op_field0 rfl rfl) rfl rfl ?_ | refine XR_a (op_fieldn rfl rfl) rfl rfl ?_
      refine XR_a (op_ld (st.cell 1 (i := 0) rfl rfl) rfl rfl rfl) rfl rfl ?_
      refine XR_a (op_assign rfl) rfl rfl ?_
      refine XR_nil ?_
      refine X_seq ?_
      refine X_seq ?_
      refine X_reg ?_
      first | refine XR_a (op_field0 rfl rfl) rfl rfl ?_ | refine XR_a (op_fieldn rfl rfl) rfl rfl ?_
      refine XR_a (op_ld (st.cell 1 (i := 6) rfl rfl) rfl rfl rfl) rfl rfl ?_
      refine XR_a (op_move rfl) rfl rfl ?_
      refine XR_no rfl rfl ?_
      refine XR_no rfl rfl ?_
      refine XR_a (op_pick_t rfl rfl) rfl rfl ?_
      refine XR_a (op_move rfl) rfl rfl ?_
      refine XR_no rfl rfl ?_
      refine XR_no rfl rfl ?_
      refine XR_a (op_pick_t rfl rfl) rfl rfl ?_
      refine XR_a (op_move rfl) rfl rfl ?_
      refine XR_no rfl rfl ?_
      refine XR_no rfl rfl ?_
      refine XR_no rfl rfl ?_
      refine XR_no rfl rfl ?_
      refine XR_no rfl rfl ?_
      refine XR_a (op_pick_t rfl rfl) rfl rfl ?_
      refine XR_nil ?_
      refine X_then rfl ?_
      refine X_seq ?_
      refine X_reg ?_
      refine XR_a (op_build (ps := []) (cs := (tokV Tok.nil).toArray) rfl rfl) rfl rfl ?_
      refine XR_wn (opl_store_whole (us := tokV Tok.nil) st 0 rfl rfl rfl rfl rfl (tokV_one _) rfl) rfl rfl fun _ hp st => ?_
      simp only [List.set_cons_zero, List.set_cons_succ] at st
      refine XR_a (op_assign rfl) rfl rfl ?_
      refine XR_nil ?_
      refine X_ret (.cons (RV_agg (vs := tokV Tok.nil) rfl rfl rfl (st.cells 0 rfl)) (.cons (.tmp rfl) .nil)) ?_
      rw [joinT_m0 (by omega)]
      exact ⟨rfl, st.low⟩
  · refine XR_no rfl rfl ?_
    refine XR_no rfl rfl ?_
    refine XR_no rfl rfl ?_
    refine XR_no rfl rfl ?_
    refine XR_a (op_pick_f rfl rfl) rfl rfl ?_
    refine XR_nil ?_
    refine X_else rfl ?_
    refine X_skip ?_
    refine X_seq ?_
    refine X_reg ?_
    first | refine XR_a (op_field0 rfl rfl) rfl rfl ?_ | refine XR_a (op_fieldn rfl rfl) rfl rfl ?_
    first | refine XR_a (op_field0 rfl rfl) rfl rfl ?_ | refine XR_a (op_fieldn rfl rfl) rfl rfl ?_
    refine XR_a (op_ld (st.cell 1 (i := 0) rfl rfl) rfl rfl rfl) rfl rfl ?_
    refine XR_a (op_assign rfl) rfl rfl ?_
    refine XR_nil ?_
    refine X_seq ?_
    refine X_seq ?_
    refine X_reg ?_
    first | refine XR_a (op_field0 rfl rfl) rfl rfl ?_ | refine XR_a (op_fieldn rfl rfl) rfl rfl ?_
    refine XR_a (op_ld (st.cell 1 (i := 6) rfl rfl) rfl rfl rfl) rfl rfl ?_
    refine XR_a (op_move rfl) rfl rfl ?_
    refine XR_no rfl rfl ?_
    refine XR_no rfl rfl ?_
    refine XR_a (op_pick_t rfl rfl) rfl rfl ?_
    refine XR_a (op_move rfl) rfl rfl ?_
    refine XR_no rfl rfl ?_
    refine XR_no rfl rfl ?_
    refine XR_a (op_pick_t rfl rfl) rfl rfl ?_
    refine XR_a (op_move rfl) rfl rfl ?_
    refine XR_no rfl rfl ?_
    refine XR_no rfl rfl ?_
    refine XR_no rfl rfl ?_
    refine XR_no rfl rfl ?_
    refine XR_no rfl rfl ?_
    refine XR_a (op_pick_t rfl rfl) rfl rfl ?_
    refine XR_nil ?_
    refine X_then rfl ?_
    refine X_seq ?_
    refine X_reg ?_
    refine XR_a (op_build (ps := []) (cs := (tokV Tok.nil).toArray) rfl rfl) rfl rfl ?_
    refine XR_wn (opl_store_whole (us := tokV Tok.nil) st 0 rfl rfl rfl rfl rfl (tokV_one _) rfl) rfl rfl fun _ hp st => ?_
    simp only [List.set_cons_zero, List.set_cons_succ] at st
    refine XR_a (op_assign rfl) rfl rfl ?_
    refine XR_nil ?_
    refine X_ret (.cons (RV_agg (vs := tokV Tok.nil) rfl rfl rfl (st.cells 0 rfl)) (.cons (.tmp rfl) .nil)) ?_
    rw [joinT_m0 (by omega)]
    exact ⟨rfl, st.low⟩
theorem sjoin_f {a b : Kls} (h0 : Heap) : Ret Tryz.prog 68 [.agg #[.int .i64 a.num, .int .i64 a.bits, .int .u32 a.ext, .int .i64 b.num, .int .i64 b.bits, .int .u32 b.ext, .bool false]] h0 fun r h' => r = retVal [.agg (tokV (joinT ⟨a, b, false⟩).1).toArray, .bool (joinT ⟨a, b, false⟩).2] ∧ Ext h0 h' := by
  refine ret_of_X Tryz.func68 rfl rfl fun w0 hw0 => ?_
  simp only [argE, Nat.zero_add, Nat.reduceAdd]
  have st := St.start h0
  refine X_seq ?_
  refine X_reg ?_
  refine XR_wa (opl_bx rfl rfl) rfl rfl rfl ?_
  rintro _ hp ⟨p, rfl, hnew⟩
  have st := st.new hnew
  refine XR_wa (opl_new rfl) rfl rfl rfl ?_
  rintro _ hp ⟨pp1, rfl, hnew⟩
  replace st := st.new hnew
  refine XR_a (op_assign rfl) rfl rfl ?_
  refine XR_nil ?_
  refine X_seq ?_
  refine X_seq ?_
  refine X_reg ?_
  first | refine XR_a (op_field0 rfl rfl) rfl rfl ?_ | refine XR_a (op_fieldn rfl rfl) rfl rfl ?_
  refine XR_a (op_ld (st.cell 1 (i := 6) rfl rfl) rfl rfl rfl) rfl rfl ?_
  refine XR_a (op_move rfl) rfl rfl ?_
  refine XR_no rfl rfl ?_
  refine XR_no rfl rfl ?_
  refine XR_no rfl rfl ?_
  refine XR_no rfl rfl ?_
  refine XR_a (op_pick_f rfl rfl) rfl rfl ?_
  refine XR_a (op_move rfl) rfl rfl ?_
  refine XR_no rfl rfl ?_
  refine XR_no rfl rfl ?_
  refine XR_no rfl rfl ?_
  refine XR_no rfl rfl ?_
  refine XR_a (op_pick_f rfl rfl) rfl rfl ?_
  refine XR_nil ?_
  refine X_else rfl ?_
  refine X_skip ?_
  refine X_seq ?_
  refine X_reg ?_
  first | refine XR_a (op_field0 rfl rfl) rfl rfl ?_ | refine XR_a (op_fieldn rfl rfl) rfl rfl ?_
  first | refine XR_a (op_field0 rfl rfl) rfl rfl ?_ | refine XR_a (op_fieldn rfl rfl) rfl rfl ?_
  refine XR_a (op_ld (st.cell 1 (i := 0) rfl rfl) rfl rfl rfl) rfl rfl ?_
  refine XR_a (op_assign rfl) rfl rfl ?_
  refine XR_nil ?_
  refine X_seq ?_
  refine X_seq ?_
  refine X_reg ?_
  first | refine XR_a (op_field0 rfl rfl) rfl rfl ?_ | refine XR_a (op_fieldn rfl rfl) rfl rfl ?_
  refine XR_a (op_ld (st.cell 1 (i := 6) rfl rfl) rfl rfl rfl) rfl rfl ?_
  refine XR_a (op_move rfl) rfl rfl ?_
  refine XR_a (op_move rfl) rfl rfl ?_
  refine XR_a (op_lss rfl rfl) rfl rfl ?_
  refine XR_a (op_pick_f rfl rfl) rfl rfl ?_
  refine XR_a (op_move rfl) rfl rfl ?_
  refine XR_if 32 rfl (fun h => ?_) (fun h => ?_)
  · refine XR_no rfl rfl ?_
    refine XR_no rfl rfl ?_
    refine XR_a (op_pick_t rfl rfl) rfl rfl ?_
    refine XR_a (op_move rfl) rfl rfl ?_
    refine XR_no rfl rfl ?_
    refine XR_no rfl rfl ?_
    refine XR_no rfl rfl ?_
    refine XR_no rfl rfl ?_
    refine XR_no rfl rfl ?_
    refine XR_a (op_pick_t rfl rfl) rfl rfl ?_
    refine XR_nil ?_
    refine X_then rfl ?_
    refine X_seq ?_
    refine X_reg ?_
    refine XR_a (op_build (ps := []) (cs := (tokV Tok.nil).toArray) rfl rfl) rfl rfl ?_
    refine XR_wn (opl_store_whole (us := tokV Tok.nil) st 0 rfl rfl rfl rfl rfl (tokV_one _) rfl) rfl rfl fun _ hp st => ?_
    simp only [List.set_cons_zero, List.set_cons_succ] at st
    refine XR_a (op_assign rfl) rfl rfl ?_
    refine XR_nil ?_
    refine X_ret (.cons (RV_agg (vs := tokV Tok.nil) rfl rfl rfl (st.cells 0 rfl)) (.cons (.tmp rfl) .nil)) ?_
    first
      | rw [joinT_b0 (fun hh => by omega)]
      | rw [joinT_b0 (fun hh => h hh.2.2)]
    exact ⟨rfl, st.low⟩
  · refine XR_a (op_move rfl) rfl rfl ?_
    refine XR_a (op_geq rfl rfl) rfl rfl ?_
    refine XR_a (op_pick_f rfl rfl) rfl rfl ?_
    refine XR_a (op_move rfl) rfl rfl ?_
    refine XR_if 36 rfl (fun h => ?_) (fun h => ?_)
    · refine XR_no rfl rfl ?_
      refine XR_no rfl rfl ?_
      refine XR_no rfl rfl ?_
      refine XR_no rfl rfl ?_
      refine XR_no rfl rfl ?_
      refine XR_a (op_pick_t rfl rfl) rfl rfl ?_
      refine XR_nil ?_
      refine X_then rfl ?_
      refine X_seq ?_
      refine X_reg ?_
      refine XR_a (op_build (ps := []) (cs := (tokV Tok.nil).toArray) rfl rfl) rfl rfl ?_
      refine XR_wn (opl_store_whole (us := tokV Tok.nil) st 0 rfl rfl rfl rfl rfl (tokV_one _) rfl) rfl rfl fun _ hp st => ?_
      simp only [List.set_cons_zero, List.set_cons_succ] at st
      refine XR_a (op_assign rfl) rfl rfl ?_
      refine XR_nil ?_
      refine X_ret (.cons (RV_agg (vs := tokV Tok.nil) rfl rfl rfl (st.cells 0 rfl)) (.cons (.tmp rfl) .nil)) ?_
      first
        | rw [joinT_b0 (fun hh => by omega)]
        | rw [joinT_b0 (fun hh => h hh.2.2)]
      exact ⟨rfl, st.low⟩
    · refine XR_a (op_ldA (vs := syV ⟨a, b, false⟩) (st.cells 1 rfl) rfl rfl rfl rfl) rfl rfl ?_
      refine XR_a (op_move rfl) rfl rfl ?_
      refine XR_a (op_build (ps := [(0, .int .i64 a.num)]) (cs := (clsV ⟨a.num, 0, 0⟩).toArray) rfl rfl) rfl rfl ?_
      refine XR_a (op_build (ps := [(0, .agg (clsV ⟨a.num, 0, 0⟩).toArray)]) (cs := (syV ⟨⟨a.num, 0, 0⟩, Kls.nil, false⟩).toArray) rfl rfl) rfl rfl ?_
      refine XR_a (op_neqH rfl rfl (neq_flat (ks := [.i .i64, .i .i64, .i .u32, .i .i64, .i .i64, .i .u32, .b]) (by kernel_rfl) (by kernel_rfl) rfl rfl) (by kernel_rfl)) rfl rfl ?_
      refine XR_as (.bool (decide (Sy.mk a b false ≠ ⟨⟨a.num, 0, 0⟩, Kls.nil, false⟩))) (congrArg Value.bool ?_) ?_
      · rw [eqL_sy]; simp
      refine XR_a (op_pick_f rfl rfl) rfl rfl ?_
      refine XR_nil ?_
      refine X_if rfl (fun h => ?_) (fun h => ?_)
      · refine X_seq ?_
        refine X_reg ?_
        refine XR_a (op_build (ps := []) (cs := (tokV Tok.nil).toArray) rfl rfl) rfl rfl ?_
        refine XR_wn (opl_store_whole (us := tokV Tok.nil) st 0 rfl rfl rfl rfl rfl (tokV_one _) rfl) rfl rfl fun _ hp st => ?_
        simp only [List.set_cons_zero, List.set_cons_succ] at st
        refine XR_a (op_assign rfl) rfl rfl ?_
        refine XR_nil ?_
        refine X_ret (.cons (RV_agg (vs := tokV Tok.nil) rfl rfl rfl (st.cells 0 rfl)) (.cons (.tmp rfl) .nil)) ?_
        first
          | rw [joinT_b0 (fun hh => by omega)]
          | rw [joinT_b0 (fun hh => h hh.2.2)]
        exact ⟨rfl, st.low⟩
      · refine X_skip ?_
        refine X_seq ?_
        refine X_reg ?_
        refine XR_a (op_move rfl) rfl rfl ?_
        refine XR_a (op_convI rfl rfl (by simp only [inK]; omega)) rfl rfl ?_
        refine XR_a (op_build (ps := [(0, .int .u8 a.num)]) (cs := (tokV ⟨a.num, 0, 0⟩).toArray) rfl rfl) rfl rfl ?_
        refine XR_wn (opl_store_whole (us := tokV ⟨a.num, 0, 0⟩) st 0 rfl rfl rfl rfl rfl (tokV_one _) rfl) rfl rfl fun _ hp st => ?_
        simp only [List.set_cons_zero, List.set_cons_succ] at st
        refine XR_a (op_assign rfl) rfl rfl ?_
        refine XR_nil ?_
        refine X_ret (.cons (RV_agg (vs := tokV ⟨a.num, 0, 0⟩) rfl rfl rfl (st.cells 0 rfl)) (.cons (.tmp rfl) .nil)) ?_
        rw [joinT_b (by omega) (Decidable.not_not.1 h)]
        exact ⟨rfl, st.low⟩
theorem sjoin_spec {r : Sy} (ha : 0 ≤ r.a.ext ∧ r.a.ext < 4294967296) (hb : 0 ≤ r.b.ext ∧ r.b.ext < 4294967296) (h0 : Heap) : Ret Tryz.prog 68 [.agg (syV r).toArray] h0 fun v h' => v = retVal [.agg (tokV (joinT r).1).toArray, .bool (joinT r).2] ∧ Ext h0 h' := by
  obtain ⟨a, b, m⟩ := r
  cases m with
  | true => exact sjoin_t ha hb h0
  | false => exact sjoin_f h0
theorem join_t {a b : Kls} (ha : 0 ≤ a.ext ∧ a.ext < 4294967296) (hb : 0 ≤ b.ext ∧ b.ext < 4294967296) (h0 : Heap) : Ret Tryz.prog 39 [.agg #[.int .i64 a.num, .int .i64 a.bits, .int .u32 a.ext], .agg #[.int .i64 b.num, .int .i64 b.bits, .int .u32 b.ext], .bool true] h0 fun r h' => r = retVal [.agg (tokV (joinT ⟨a, b, true⟩).1).toArray, .bool (joinT ⟨a, b, true⟩).2] ∧ Ext h0 h' := by
  have bx := valP_bd (c := ⟨a.num - 257, a.bits, a.ext⟩)
  have by_ := valP_bd (c := b)
  refine ret_of_X Tryz.func39 rfl rfl fun w0 hw0 => ?_
  simp only [argE, Nat.zero_add, Nat.reduceAdd]
  have st := St.start h0
  refine X_seq ?_
  refine X_reg ?_
  refine XR_wa (opl_bx rfl rfl) rfl rfl rfl ?_
  rintro _ hp ⟨p, rfl, hnew⟩
  have st := st.new hnew
  refine XR_wa (opl_bx rfl rfl) rfl rfl rfl ?_
  rintro _ hp ⟨p, rfl, hnew⟩
  have st := st.new hnew
  refine XR_wa (opl_new rfl) rfl rfl rfl ?_
  rintro _ hp ⟨pp1, rfl, hnew⟩
  replace st := st.new hnew
  refine XR_a (op_assign rfl) rfl rfl ?_
  refine XR_nil ?_
  refine X_seq ?_
  refine X_seq ?_
  refine X_reg ?_
  refine XR_a (op_move rfl) rfl rfl ?_
  refine XR_a (op_not rfl) rfl rfl ?_
  refine XR_nil ?_
  refine X_else rfl ?_
  refine X_skip ?_
  refine X_seq ?_
  refine X_seq ?_
  refine X_reg ?_
  first | refine XR_a (op_field0 rfl rfl) rfl rfl ?_ | refine XR_a (op_fieldn rfl rfl) rfl rfl ?_
  refine XR_a (op_ld (st.cell 2 (i := 0) rfl rfl) rfl rfl rfl) rfl rfl ?_
  refine XR_a (op_lss rfl rfl) rfl rfl ?_
  refine XR_a (op_move rfl) rfl rfl ?_
  refine XR_if 56 rfl (fun h => ?_) (fun h => ?_)
  · refine XR_no rfl rfl ?_
    refine XR_no rfl rfl ?_
    refine XR_no rfl rfl ?_
    refine XR_a (op_pick_t rfl rfl) rfl rfl ?_
    refine XR_nil ?_
    refine X_then rfl ?_
    refine X_seq ?_
    refine X_reg ?_
    refine XR_a (op_build (ps := []) (cs := (tokV Tok.nil).toArray) rfl rfl) rfl rfl ?_
    refine XR_wn (opl_store_whole (us := tokV Tok.nil) st 0 rfl rfl rfl rfl rfl (tokV_one _) rfl) rfl rfl fun _ hp st => ?_
    simp only [List.set_cons_zero, List.set_cons_succ] at st
    refine XR_a (op_assign rfl) rfl rfl ?_
    refine XR_nil ?_
    refine X_ret (.cons (RV_agg (vs := tokV Tok.nil) rfl rfl rfl (st.cells 0 rfl)) (.cons (.tmp rfl) .nil)) ?_
    rw [joinT_m0 (by omega)]
    exact ⟨rfl, st.low⟩
  · first | refine XR_a (op_field0 rfl rfl) rfl rfl ?_ | refine XR_a (op_fieldn rfl rfl) rfl rfl ?_
    refine XR_a (op_ld (st.cell 2 (i := 0) rfl rfl) rfl rfl rfl) rfl rfl ?_
    refine XR_a (op_gtr rfl rfl) rfl rfl ?_
    refine XR_a (op_pick_f rfl rfl) rfl rfl ?_
    refine XR_nil ?_
    refine X_if rfl (fun h => ?_) (fun h => ?_)
    · refine X_seq ?_
      refine X_reg ?_
      refine XR_a (op_build (ps := []) (cs := (tokV Tok.nil).toArray) rfl rfl) rfl rfl ?_
      refine XR_wn (opl_store_whole (us := tokV Tok.nil) st 0 rfl rfl rfl rfl rfl (tokV_one _) rfl) rfl rfl fun _ hp st => ?_
      simp only [List.set_cons_zero, List.set_cons_succ] at st
      refine XR_a (op_assign rfl) rfl rfl ?_
      refine XR_nil ?_
      refine X_ret (.cons (RV_agg (vs := tokV Tok.nil) rfl rfl rfl (st.cells 0 rfl)) (.cons (.tmp rfl) .nil)) ?_
      rw [joinT_m0 (by omega)]
      exact ⟨rfl, st.low⟩
    · rw [joinT_m (by omega), matchT_eq]
      refine X_skip ?_
      refine X_seq ?_
      refine X_reg ?_
      first | refine XR_a (op_field0 rfl rfl) rfl rfl ?_ | refine XR_a (op_fieldn rfl rfl) rfl rfl ?_
      refine XR_a (op_ld (st.cell 2 (i := 0) rfl rfl) rfl rfl rfl) rfl rfl ?_
      refine XR_a (op_subI rfl rfl (by simp only [inK]; omega)) rfl rfl ?_
      first | refine XR_a (op_field0 rfl rfl) rfl rfl ?_ | refine XR_a (op_fieldn rfl rfl) rfl rfl ?_
      refine XR_a (op_ld (st.cell 2 (i := 1) rfl rfl) rfl rfl rfl) rfl rfl ?_
      first | refine XR_a (op_field0 rfl rfl) rfl rfl ?_ | refine XR_a (op_fieldn rfl rfl) rfl rfl ?_
      refine XR_a (op_ld (st.cell 2 (i := 2) rfl rfl) rfl rfl rfl) rfl rfl ?_
      refine XR_a (op_build (ps := [(0, .int .i64 (a.num - 257)), (1, .int .i64 a.bits), (2, .int .u32 a.ext)]) (cs := (clsV ⟨a.num - 257, a.bits, a.ext⟩).toArray) rfl rfl) rfl rfl ?_
      refine XR_wa (opl_call (val_ref (c := ⟨a.num - 257, a.bits, a.ext⟩) ha _) rfl (by kernel_rfl)) rfl rfl rfl ?_
      rintro _ hp ⟨rfl, hx1⟩
      replace st := st.ext hx1
      refine XR_a (op_move rfl) rfl rfl ?_
      refine XR_a (op_extract rfl rfl) rfl rfl ?_
      refine XR_a (op_extract rfl rfl) rfl rfl ?_
      refine XR_a (op_assign rfl) rfl rfl ?_
      refine XR_a (op_assign rfl) rfl rfl ?_
      refine XR_nil ?_
      refine X_seq ?_
      refine X_reg ?_
      refine XR_a (op_ldA (vs := clsV b) (st.cells 1 rfl) rfl rfl rfl rfl) rfl rfl ?_
      refine XR_wa (opl_call (val_ref (c := b) hb _) rfl (by kernel_rfl)) rfl rfl rfl ?_
      rintro _ hp ⟨rfl, hx2⟩
      replace st := st.ext hx2
      generalize valP ⟨a.num - 257, a.bits, a.ext⟩ = X at *
      generalize valP b = Y at *
      refine XR_a (op_move rfl) rfl rfl ?_
      refine XR_a (op_extract rfl rfl) rfl rfl ?_
      refine XR_a (op_extract rfl rfl) rfl rfl ?_
      refine XR_a (op_assign rfl) rfl rfl ?_
      refine XR_a (op_assign rfl) rfl rfl ?_
      refine XR_nil ?_
      refine X_seq ?_
      refine X_reg ?_
      refine XR_a (op_move rfl) rfl rfl ?_
      refine XR_a (op_addI rfl rfl (by simp only [inK]; omega)) rfl rfl ?_
      refine XR_a (op_move rfl) rfl rfl ?_
      refine XR_a (op_addI rfl rfl (by simp only [inK]; omega)) rfl rfl ?_
      refine XR_a (op_build (ps := [(1, .int .i64 (X.1 + 3)), (2, .int .i64 (Y.1 + 1))]) (cs := (tokV ⟨0, X.1 + 3, Y.1 + 1⟩).toArray) rfl rfl) rfl rfl ?_
      generalize Tok.mk 0 (X.1 + 3) (Y.1 + 1) = T at *
      refine XR_wa (opl_new rfl) rfl rfl rfl ?_
      rintro _ hp ⟨pp2, rfl, hnew⟩
      replace st := st.new hnew
      by_cases hX : X.2 = true
      · have st := st
        refine XR_wn (opl_store_whole (us := tokV T) st 0 rfl rfl rfl rfl rfl (tokV_one _) rfl) rfl rfl fun _ hp st => ?_
        simp only [List.set_cons_zero, List.set_cons_succ] at st
        refine XR_nil ?_
        refine X_seq ?_
        refine X_seq ?_
        refine X_reg ?_
        refine XR_a (op_move rfl) rfl rfl ?_
        by_cases hY : Y.2 = true
        · have st := st
          refine XR_a (op_not rfl) rfl rfl ?_
          refine XR_as (.bool false) (by rw [hX]; rfl) ?_
          refine XR_a (op_move rfl) rfl rfl ?_
          refine XR_a (op_move rfl) rfl rfl ?_
          refine XR_a (op_not rfl) rfl rfl ?_
          refine XR_as (.bool false) (by rw [hY]; rfl) ?_
          refine XR_a (op_pick_f rfl rfl) rfl rfl ?_
          refine XR_a (op_move rfl) rfl rfl ?_
          refine XR_a (op_ldA (st.cells 0 rfl) rfl rfl rfl rfl) rfl rfl ?_
          refine XR_wa (opl_call (tright_ref T _) rfl (by kernel_rfl)) rfl rfl rfl ?_
          rintro _ hp ⟨rfl, hx3⟩
          replace st := st.ext hx3
          first | refine XR_a (op_notd rfl) rfl rfl ?_ | refine XR_a (op_not rfl) rfl rfl ?_
          refine XR_a (op_pick_f rfl rfl) rfl rfl ?_
          refine XR_nil ?_
          refine X_if rfl (fun h => ?_) (fun h => ?_)
          · refine X_seq ?_
            refine X_reg ?_
            refine XR_a (op_build (ps := []) (cs := (tokV Tok.nil).toArray) rfl rfl) rfl rfl ?_
            refine XR_wn (opl_store_whole (us := tokV Tok.nil) st 1 rfl rfl rfl rfl rfl (tokV_one _) rfl) rfl rfl fun _ hp st => ?_
            simp only [List.set_cons_zero, List.set_cons_succ] at st
            refine XR_a (op_assign rfl) rfl rfl ?_
            refine XR_nil ?_
            refine X_ret (.cons (RV_agg (vs := tokV Tok.nil) rfl rfl rfl (st.cells 1 rfl)) (.cons (.tmp rfl) .nil)) ?_
            rw [if_neg (fun hh => h hh.2.2)]
            exact ⟨rfl, st.low⟩
          · refine X_skip ?_
            refine X_seq ?_
            refine X_reg ?_
            refine XR_a (op_ldA (st.cells 0 rfl) rfl rfl rfl rfl) rfl rfl ?_
            refine XR_wn (opl_store_whole (us := tokV T) st 1 rfl rfl rfl rfl rfl (tokV_one _) rfl) rfl rfl fun _ hp st => ?_
            simp only [List.set_cons_zero, List.set_cons_succ] at st
            refine XR_a (op_assign rfl) rfl rfl ?_
            refine XR_nil ?_
            refine X_ret (.cons (RV_agg (vs := tokV T) rfl rfl rfl (st.cells 1 rfl)) (.cons (.tmp rfl) .nil)) ?_
            rw [if_pos ⟨hX, hY, Decidable.not_not.1 h⟩]
            exact ⟨rfl, st.low⟩
        · have hY' : Y.2 = false := by simpa using hY
          refine XR_a (op_not rfl) rfl rfl ?_
          refine XR_as (.bool false) (by rw [hX]; rfl) ?_
          refine XR_a (op_move rfl) rfl rfl ?_
          refine XR_a (op_move rfl) rfl rfl ?_
          refine XR_a (op_not rfl) rfl rfl ?_
          refine XR_as (.bool true) (by rw [hY']; rfl) ?_
          refine XR_a (op_pick_f rfl rfl) rfl rfl ?_
          refine XR_a (op_move rfl) rfl rfl ?_
          refine XR_no rfl rfl ?_
          refine XR_no rfl rfl ?_
          refine XR_no rfl rfl ?_
          refine XR_a (op_pick_t rfl rfl) rfl rfl ?_
          refine XR_nil ?_
          refine X_then rfl ?_
          refine X_seq ?_
          refine X_reg ?_
          refine XR_a (op_build (ps := []) (cs := (tokV Tok.nil).toArray) rfl rfl) rfl rfl ?_
          refine XR_wn (opl_store_whole (us := tokV Tok.nil) st 1 rfl rfl rfl rfl rfl (tokV_one _) rfl) rfl rfl fun _ hp st => ?_
          simp only [List.set_cons_zero, List.set_cons_succ] at st
          refine XR_a (op_assign rfl) rfl rfl ?_
          refine XR_nil ?_
          refine X_ret (.cons (RV_agg (vs := tokV Tok.nil) rfl rfl rfl (st.cells 1 rfl)) (.cons (.tmp rfl) .nil)) ?_
          rw [if_neg (fun hh => hY hh.2.1)]
          exact ⟨rfl, st.low⟩
      · have hX' : X.2 = false := by simpa using hX
        refine XR_wn (opl_store_whole (us := tokV T) st 0 rfl rfl rfl rfl rfl (tokV_one _) rfl) rfl rfl fun _ hp st => ?_
        simp only [List.set_cons_zero, List.set_cons_succ] at st
        refine XR_nil ?_
        refine X_seq ?_
        refine X_seq ?_
        refine X_reg ?_
        refine XR_a (op_move rfl) rfl rfl ?_
        refine XR_a (op_not rfl) rfl rfl ?_
        refine XR_as (.bool true) (by rw [hX']; rfl) ?_
        refine XR_a (op_move rfl) rfl rfl ?_
        refine XR_no rfl rfl ?_
        refine XR_no rfl rfl ?_
        refine XR_a (op_pick_t rfl rfl) rfl rfl ?_
        refine XR_a (op_move rfl) rfl rfl ?_
        refine XR_no rfl rfl ?_
        refine XR_no rfl rfl ?_
        refine XR_no rfl rfl ?_
        refine XR_a (op_pick_t rfl rfl) rfl rfl ?_
        refine XR_nil ?_
        refine X_then rfl ?_
        refine X_seq ?_
        refine X_reg ?_
        refine XR_a (op_build (ps := []) (cs := (tokV Tok.nil).toArray) rfl rfl) rfl rfl ?_
        refine XR_wn (opl_store_whole (us := tokV Tok.nil) st 1 rfl rfl rfl rfl rfl (tokV_one _) rfl) rfl rfl fun _ hp st => ?_
        simp only [List.set_cons_zero, List.set_cons_succ] at st
        refine XR_a (op_assign rfl) rfl rfl ?_
        refine XR_nil ?_
        refine X_ret (.cons (RV_agg (vs := tokV Tok.nil) rfl rfl rfl (st.cells 1 rfl)) (.cons (.tmp rfl) .nil)) ?_
        rw [if_neg (fun hh => hX hh.1)]
        exact ⟨rfl, st.low⟩
theorem join_f {a b : Kls} (h0 : Heap) : Ret Tryz.prog 39 [.agg #[.int .i64 a.num, .int .i64 a.bits, .int .u32 a.ext], .agg #[.int .i64 b.num, .int .i64 b.bits, .int .u32 b.ext], .bool false] h0 fun r h' => r = retVal [.agg (tokV (joinT ⟨a, b, false⟩).1).toArray, .bool (joinT ⟨a, b, false⟩).2] ∧ Ext h0 h' := by
  refine ret_of_X Tryz.func39 rfl rfl fun w0 hw0 => ?_
  simp only [argE, Nat.zero_add, Nat.reduceAdd]
  have st := St.start h0
  refine X_seq ?_
  refine X_reg ?_
  refine XR_wa (opl_bx rfl rfl) rfl rfl rfl ?_
  rintro _ hp ⟨p, rfl, hnew⟩
  have st := st.new hnew
  refine XR_wa (opl_bx rfl rfl) rfl rfl rfl ?_
  rintro _ hp ⟨p, rfl, hnew⟩
  have st := st.new hnew
  refine XR_wa (opl_new rfl) rfl rfl rfl ?_
  rintro _ hp ⟨pp1, rfl, hnew⟩
  replace st := st.new hnew
  refine XR_a (op_assign rfl) rfl rfl ?_
  refine XR_nil ?_
  refine X_seq ?_
  refine X_seq ?_
  refine X_reg ?_
  refine XR_a (op_move rfl) rfl rfl ?_
  refine XR_a (op_not rfl) rfl rfl ?_
  refine XR_nil ?_
  refine X_then rfl ?_
  refine X_seq ?_
  refine X_seq ?_
  refine X_reg ?_
  first | refine XR_a (op_field0 rfl rfl) rfl rfl ?_ | refine XR_a (op_fieldn rfl rfl) rfl rfl ?_
  refine XR_a (op_ld (st.cell 2 (i := 0) rfl rfl) rfl rfl rfl) rfl rfl ?_
  refine XR_a (op_lss rfl rfl) rfl rfl ?_
  refine XR_a (op_move rfl) rfl rfl ?_
  refine XR_if 18 rfl (fun h => ?_) (fun h => ?_)
  · refine XR_no rfl rfl ?_
    refine XR_no rfl rfl ?_
    refine XR_no rfl rfl ?_
    refine XR_a (op_pick_t rfl rfl) rfl rfl ?_
    refine XR_a (op_move rfl) rfl rfl ?_
    refine XR_no rfl rfl ?_
    refine XR_no rfl rfl ?_
    refine XR_no rfl rfl ?_
    refine XR_a (op_pick_t rfl rfl) rfl rfl ?_
    refine XR_a (op_move rfl) rfl rfl ?_
    refine XR_no rfl rfl ?_
    refine XR_no rfl rfl ?_
    refine XR_no rfl rfl ?_
    refine XR_a (op_pick_t rfl rfl) rfl rfl ?_
    refine XR_a (op_move rfl) rfl rfl ?_
    refine XR_no rfl rfl ?_
    refine XR_no rfl rfl ?_
    refine XR_no rfl rfl ?_
    refine XR_a (op_pick_t rfl rfl) rfl rfl ?_
    refine XR_a (op_move rfl) rfl rfl ?_
    refine XR_no rfl rfl ?_
    refine XR_no rfl rfl ?_
    refine XR_no rfl rfl ?_
    refine XR_a (op_pick_t rfl rfl) rfl rfl ?_
    refine XR_a (op_move rfl) rfl rfl ?_
    refine XR_no rfl rfl ?_
    refine XR_no rfl rfl ?_
    refine XR_no rfl rfl ?_
    refine XR_a (op_pick_t rfl rfl) rfl rfl ?_
    refine XR_nil ?_
    refine X_then rfl ?_
    refine X_seq ?_
    refine X_reg ?_
    refine XR_a (op_build (ps := []) (cs := (tokV Tok.nil).toArray) rfl rfl) rfl rfl ?_
    refine XR_wn (opl_store_whole (us := tokV Tok.nil) st 0 rfl rfl rfl rfl rfl (tokV_one _) rfl) rfl rfl fun _ hp st => ?_
    simp only [List.set_cons_zero, List.set_cons_succ] at st
    refine XR_a (op_assign rfl) rfl rfl ?_
    refine XR_nil ?_
    refine X_ret (.cons (RV_agg (vs := tokV Tok.nil) rfl rfl rfl (st.cells 0 rfl)) (.cons (.tmp rfl) .nil)) ?_
    rw [joinT_b0 (by rw [sy_plain]; omega)]
    exact ⟨rfl, st.low⟩
  · first | refine XR_a (op_field0 rfl rfl) rfl rfl ?_ | refine XR_a (op_fieldn rfl rfl) rfl rfl ?_
    refine XR_a (op_ld (st.cell 2 (i := 0) rfl rfl) rfl rfl rfl) rfl rfl ?_
    refine XR_a (op_gtr rfl rfl) rfl rfl ?_
    refine XR_a (op_pick_f rfl rfl) rfl rfl ?_
    refine XR_a (op_move rfl) rfl rfl ?_
    refine XR_if 23 rfl (fun h => ?_) (fun h => ?_)
    · refine XR_no rfl rfl ?_
      refine XR_no rfl rfl ?_
      refine XR_no rfl rfl ?_
      refine XR_a (op_pick_t rfl rfl) rfl rfl ?_
      refine XR_a (op_move rfl) rfl rfl ?_
      refine XR_no rfl rfl ?_
      refine XR_no rfl rfl ?_
      refine XR_no rfl rfl ?_
      refine XR_a (op_pick_t rfl rfl) rfl rfl ?_
      refine XR_a (op_move rfl) rfl rfl ?_
      refine XR_no rfl rfl ?_
      refine XR_no rfl rfl ?_
      refine XR_no rfl rfl ?_
      refine XR_a (op_pick_t rfl rfl) rfl rfl ?_
      refine XR_a (op_move rfl) rfl rfl ?_
      refine XR_no rfl rfl ?_
      refine XR_no rfl rfl ?_
      refine XR_no rfl rfl ?_
      refine XR_a (op_pick_t rfl rfl) rfl rfl ?_
      refine XR_a (op_move rfl) rfl rfl ?_
      refine XR_no rfl rfl ?_
      refine XR_no rfl rfl ?_
      refine XR_no rfl rfl ?_
      refine XR_a (op_pick_t rfl rfl) rfl rfl ?_
      refine XR_nil ?_
      refine X_then rfl ?_
      refine X_seq ?_
      refine X_reg ?_
      refine XR_a (op_build (ps := []) (cs := (tokV Tok.nil).toArray) rfl rfl) rfl rfl ?_
      refine XR_wn (opl_store_whole (us := tokV Tok.nil) st 0 rfl rfl rfl rfl rfl (tokV_one _) rfl) rfl rfl fun _ hp st => ?_
      simp only [List.set_cons_zero, List.set_cons_succ] at st
      refine XR_a (op_assign rfl) rfl rfl ?_
      refine XR_nil ?_
      refine X_ret (.cons (RV_agg (vs := tokV Tok.nil) rfl rfl rfl (st.cells 0 rfl)) (.cons (.tmp rfl) .nil)) ?_
      rw [joinT_b0 (by rw [sy_plain]; omega)]
      exact ⟨rfl, st.low⟩
    · first | refine XR_a (op_field0 rfl rfl) rfl rfl ?_ | refine XR_a (op_fieldn rfl rfl) rfl rfl ?_
      refine XR_a (op_ld (st.cell 2 (i := 1) rfl rfl) rfl rfl rfl) rfl rfl ?_
      refine XR_a (op_neq rfl rfl) rfl rfl ?_
      refine XR_a (op_pick_f rfl rfl) rfl rfl ?_
      refine XR_a (op_move rfl) rfl rfl ?_
      refine XR_if 28 rfl (fun h => ?_) (fun h => ?_)
      · refine XR_no rfl rfl ?_
        refine XR_no rfl rfl ?_
        refine XR_no rfl rfl ?_
        refine XR_a (op_pick_t rfl rfl) rfl rfl ?_
        refine XR_a (op_move rfl) rfl rfl ?_
        refine XR_no rfl rfl ?_
        refine XR_no rfl rfl ?_
        refine XR_no rfl rfl ?_
        refine XR_a (op_pick_t rfl rfl) rfl rfl ?_
        refine XR_a (op_move rfl) rfl rfl ?_
        refine XR_no rfl rfl ?_
        refine XR_no rfl rfl ?_
        refine XR_no rfl rfl ?_
        refine XR_a (op_pick_t rfl rfl) rfl rfl ?_
        refine XR_a (op_move rfl) rfl rfl ?_
        refine XR_no rfl rfl ?_
        refine XR_no rfl rfl ?_
        refine XR_no rfl rfl ?_
        refine XR_a (op_pick_t rfl rfl) rfl rfl ?_
        refine XR_nil ?_
        refine X_then rfl ?_
        refine X_seq ?_
        refine X_reg ?_
        refine XR_a (op_build (ps := []) (cs := (tokV Tok.nil).toArray) rfl rfl) rfl rfl ?_
        refine XR_wn (opl_store_whole (us := tokV Tok.nil) st 0 rfl rfl rfl rfl rfl (tokV_one _) rfl) rfl rfl fun _ hp st => ?_
        simp only [List.set_cons_zero, List.set_cons_succ] at st
        refine XR_a (op_assign rfl) rfl rfl ?_
        refine XR_nil ?_
        refine X_ret (.cons (RV_agg (vs := tokV Tok.nil) rfl rfl rfl (st.cells 0 rfl)) (.cons (.tmp rfl) .nil)) ?_
        rw [joinT_b0 (by rw [sy_plain]; omega)]
        exact ⟨rfl, st.low⟩
      · first | refine XR_a (op_field0 rfl rfl) rfl rfl ?_ | refine XR_a (op_fieldn rfl rfl) rfl rfl ?_
        refine XR_a (op_ld (st.cell 2 (i := 2) rfl rfl) rfl rfl rfl) rfl rfl ?_
        refine XR_a (op_neq rfl rfl) rfl rfl ?_
        refine XR_a (op_pick_f rfl rfl) rfl rfl ?_
        refine XR_a (op_move rfl) rfl rfl ?_
        refine XR_if 33 rfl (fun h => ?_) (fun h => ?_)
        · refine XR_no rfl rfl ?_
          refine XR_no rfl rfl ?_
          refine XR_no rfl rfl ?_
          refine XR_a (op_pick_t rfl rfl) rfl rfl ?_
          refine XR_a (op_move rfl) rfl rfl ?_
          refine XR_no rfl rfl ?_
          refine XR_no rfl rfl ?_
          refine XR_no rfl rfl ?_
          refine XR_a (op_pick_t rfl rfl) rfl rfl ?_
          refine XR_a (op_move rfl) rfl rfl ?_
          refine XR_no rfl rfl ?_
          refine XR_no rfl rfl ?_
          refine XR_no rfl rfl ?_
          refine XR_a (op_pick_t rfl rfl) rfl rfl ?_
          refine XR_nil ?_
          refine X_then rfl ?_
          refine X_seq ?_
          refine X_reg ?_
          refine XR_a (op_build (ps := []) (cs := (tokV Tok.nil).toArray) rfl rfl) rfl rfl ?_
          refine XR_wn (opl_store_whole (us := tokV Tok.nil) st 0 rfl rfl rfl rfl rfl (tokV_one _) rfl) rfl rfl fun _ hp st => ?_
          simp only [List.set_cons_zero, List.set_cons_succ] at st
          refine XR_a (op_assign rfl) rfl rfl ?_
          refine XR_nil ?_
          refine X_ret (.cons (RV_agg (vs := tokV Tok.nil) rfl rfl rfl (st.cells 0 rfl)) (.cons (.tmp rfl) .nil)) ?_
          rw [joinT_b0 (by rw [sy_plain]; omega)]
          exact ⟨rfl, st.low⟩
        · first | refine XR_a (op_field0 rfl rfl) rfl rfl ?_ | refine XR_a (op_fieldn rfl rfl) rfl rfl ?_
          refine XR_a (op_ld (st.cell 1 (i := 0) rfl rfl) rfl rfl rfl) rfl rfl ?_
          refine XR_a (op_neq rfl rfl) rfl rfl ?_
          refine XR_a (op_pick_f rfl rfl) rfl rfl ?_
          refine XR_a (op_move rfl) rfl rfl ?_
          refine XR_if 38 rfl (fun h => ?_) (fun h => ?_)
          · refine XR_no rfl rfl ?_
            refine XR_no rfl rfl ?_
            refine XR_no rfl rfl ?_
            refine XR_a (op_pick_t rfl rfl) rfl rfl ?_
            refine XR_a (op_move rfl) rfl rfl ?_
            refine XR_no rfl rfl ?_
            refine XR_no rfl rfl ?_
            refine XR_no rfl rfl ?_
            refine XR_a (op_pick_t rfl rfl) rfl rfl ?_
            refine XR_nil ?_
            refine X_then rfl ?_
            refine X_seq ?_
            refine X_reg ?_
            refine XR_a (op_build (ps := []) (cs := (tokV Tok.nil).toArray) rfl rfl) rfl rfl ?_
            refine XR_wn (opl_store_whole (us := tokV Tok.nil) st 0 rfl rfl rfl rfl rfl (tokV_one _) rfl) rfl rfl fun _ hp st => ?_
            simp only [List.set_cons_zero, List.set_cons_succ] at st
            refine XR_a (op_assign rfl) rfl rfl ?_
            refine XR_nil ?_
            refine X_ret (.cons (RV_agg (vs := tokV Tok.nil) rfl rfl rfl (st.cells 0 rfl)) (.cons (.tmp rfl) .nil)) ?_
            rw [joinT_b0 (by rw [sy_plain]; omega)]
            exact ⟨rfl, st.low⟩
          · first | refine XR_a (op_field0 rfl rfl) rfl rfl ?_ | refine XR_a (op_fieldn rfl rfl) rfl rfl ?_
            refine XR_a (op_ld (st.cell 1 (i := 1) rfl rfl) rfl rfl rfl) rfl rfl ?_
            refine XR_a (op_neq rfl rfl) rfl rfl ?_
            refine XR_a (op_pick_f rfl rfl) rfl rfl ?_
            refine XR_a (op_move rfl) rfl rfl ?_
            refine XR_if 43 rfl (fun h => ?_) (fun h => ?_)
            · refine XR_no rfl rfl ?_
              refine XR_no rfl rfl ?_
              refine XR_no rfl rfl ?_
              refine XR_a (op_pick_t rfl rfl) rfl rfl ?_
              refine XR_nil ?_
              refine X_then rfl ?_
              refine X_seq ?_
              refine X_reg ?_
              refine XR_a (op_build (ps := []) (cs := (tokV Tok.nil).toArray) rfl rfl) rfl rfl ?_
              refine XR_wn (opl_store_whole (us := tokV Tok.nil) st 0 rfl rfl rfl rfl rfl (tokV_one _) rfl) rfl rfl fun _ hp st => ?_
              simp only [List.set_cons_zero, List.set_cons_succ] at st
              refine XR_a (op_assign rfl) rfl rfl ?_
              refine XR_nil ?_
              refine X_ret (.cons (RV_agg (vs := tokV Tok.nil) rfl rfl rfl (st.cells 0 rfl)) (.cons (.tmp rfl) .nil)) ?_
              rw [joinT_b0 (by rw [sy_plain]; omega)]
              exact ⟨rfl, st.low⟩
            · first | refine XR_a (op_field0 rfl rfl) rfl rfl ?_ | refine XR_a (op_fieldn rfl rfl) rfl rfl ?_
              refine XR_a (op_ld (st.cell 1 (i := 2) rfl rfl) rfl rfl rfl) rfl rfl ?_
              refine XR_a (op_neq rfl rfl) rfl rfl ?_
              refine XR_a (op_pick_f rfl rfl) rfl rfl ?_
              refine XR_nil ?_
              refine X_if rfl (fun h => ?_) (fun h => ?_)
              · refine X_seq ?_
                refine X_reg ?_
                refine XR_a (op_build (ps := []) (cs := (tokV Tok.nil).toArray) rfl rfl) rfl rfl ?_
                refine XR_wn (opl_store_whole (us := tokV Tok.nil) st 0 rfl rfl rfl rfl rfl (tokV_one _) rfl) rfl rfl fun _ hp st => ?_
                simp only [List.set_cons_zero, List.set_cons_succ] at st
                refine XR_a (op_assign rfl) rfl rfl ?_
                refine XR_nil ?_
                refine X_ret (.cons (RV_agg (vs := tokV Tok.nil) rfl rfl rfl (st.cells 0 rfl)) (.cons (.tmp rfl) .nil)) ?_
                rw [joinT_b0 (by rw [sy_plain]; omega)]
                exact ⟨rfl, st.low⟩
              · refine X_skip ?_
                refine X_seq ?_
                refine X_reg ?_
                first | refine XR_a (op_field0 rfl rfl) rfl rfl ?_ | refine XR_a (op_fieldn rfl rfl) rfl rfl ?_
                refine XR_a (op_ld (st.cell 2 (i := 0) rfl rfl) rfl rfl rfl) rfl rfl ?_
                refine XR_a (op_convI rfl rfl (by simp only [inK]; omega)) rfl rfl ?_
                refine XR_a (op_build (ps := [(0, .int .u8 a.num)]) (cs := (tokV ⟨a.num, 0, 0⟩).toArray) rfl rfl) rfl rfl ?_
                refine XR_wn (opl_store_whole (us := tokV ⟨a.num, 0, 0⟩) st 0 rfl rfl rfl rfl rfl (tokV_one _) rfl) rfl rfl fun _ hp st => ?_
                simp only [List.set_cons_zero, List.set_cons_succ] at st
                refine XR_a (op_assign rfl) rfl rfl ?_
                refine XR_nil ?_
                refine X_ret (.cons (RV_agg (vs := tokV ⟨a.num, 0, 0⟩) rfl rfl rfl (st.cells 0 rfl)) (.cons (.tmp rfl) .nil)) ?_
                rw [joinT_b (by omega) (by rw [sy_plain]; omega)]
                exact ⟨rfl, st.low⟩
theorem join_ref {a b : Kls} {m : Bool} (ha : 0 ≤ a.ext ∧ a.ext < 4294967296) (hb : 0 ≤ b.ext ∧ b.ext < 4294967296) (h0 : Heap) : Ret Tryz.prog 39 [.agg #[.int .i64 a.num, .int .i64 a.bits, .int .u32 a.ext], .agg #[.int .i64 b.num, .int .i64 b.bits, .int .u32 b.ext], .bool m] h0 fun r h' => r = retVal [.agg (tokV (joinT ⟨a, b, m⟩).1).toArray, .bool (joinT ⟨a, b, m⟩).2] ∧ Ext h0 h' := by
  cases m with
  | true => exact join_t ha hb h0
  | false => exact join_f h0
end Go.Bn
end
