/- Packed texts of a claim: what its theorem uses, joined. -/
import Derived.Test.YtoodeecmplpndaaGreatPkCdc11
section
set_option linter.unusedVariables false
set_option linter.unusedSimpArgs false
set_option maxHeartbeats 4000000
set_option maxRecDepth 20000
namespace Go.Bn
open Go Proofs
theorem tin_spec (a b c : Int) (h0 : Heap) : Ret Tryz.prog 142 [.int .i64 a, .int .i64 b, .int .i64 c] h0 fun r h' => r = .bool (decide (b ≤ a ∧ a ≤ c)) ∧ h0 = h' := by
 refine ret_of_X Tryz.func142 rfl rfl fun w0 hw0 => ?_
 simp only [argE, Nat.zero_add, Nat.reduceAdd]
 refine X_seq (X_reg (XA rfl rfl rfl (XR_nil (X_seq (X_reg (XV rfl rfl rfl (XV rfl rfl rfl ?_)))))))
 refine XR_a (op_geq rfl rfl) rfl rfl ?_
 refine XV rfl rfl rfl ?_
 refine XR_if 10 rfl (fun h => ?_) (fun h => ?_)
 ·refine XV rfl rfl rfl (XV rfl rfl rfl ?_)
  refine XR_a (op_leq rfl rfl) rfl rfl ?_
  refine XR_a (op_pick_t rfl rfl) rfl rfl (XA rfl rfl rfl (XR_nil ?_))
  refine X_ret (.cons (.tmp rfl) .nil) ?_
  first
   | exact ⟨congrArg Value.bool (decide_eq_false (by omega)).symm, rfl⟩
   | exact ⟨congrArg Value.bool (decide_eq_decide.2 ⟨fun hh => by omega, fun hh => by omega⟩), rfl⟩
 ·refine XR_no rfl rfl (XR_no rfl rfl (XR_no rfl rfl (XR_a (op_pick_f rfl rfl) rfl rfl (XA rfl rfl rfl (XR_nil ?_)))))
  refine X_ret (.cons (.tmp rfl) .nil) ?_
  first
   | exact ⟨congrArg Value.bool (decide_eq_false (by omega)).symm, rfl⟩
   | exact ⟨congrArg Value.bool (decide_eq_decide.2 ⟨fun hh => by omega, fun hh => by omega⟩), rfl⟩
theorem tright_spec (t : Tok) (h0 : Heap) : Ret Tryz.prog 114 [.agg #[.int .u8 t.byte, .int .i64 t.len, .int .i64 t.dist]] h0 fun r h' => r = .bool (decide t.right) ∧ Ext h0 h' := by
 refine ret_of_X Tryz.func114 rfl rfl fun w0 hw0 => ?_
 simp only [argE, Nat.zero_add, Nat.reduceAdd]
 have st := St.start h0
 unfold Tok.right
 refine X_seq (X_reg ?_)
 refine XR_wa (opl_bx rfl rfl) rfl rfl rfl ?_
 rintro _ hp ⟨p, rfl, hnew⟩
 have st := st.new hnew
 refine XA rfl rfl rfl (XR_nil (X_seq (X_seq (X_reg ?_))))
 first | refine XR_a (op_field0 rfl rfl) rfl rfl ?_ | refine XR_a (op_fieldn rfl rfl) rfl rfl ?_
 refine XR_a (op_ld (st.cell 0 (i := 1) rfl rfl) rfl rfl rfl) rfl rfl ?_
 refine XR_a (op_eql rfl rfl) rfl rfl ?_
 refine XR_nil ?_
 refine X_if rfl (fun h => ?_) (fun h => ?_)
 ·refine X_seq (X_reg ?_)
  first | refine XR_a (op_field0 rfl rfl) rfl rfl ?_ | refine XR_a (op_fieldn rfl rfl) rfl rfl ?_
  refine XR_a (op_ld (st.cell 0 (i := 2) rfl rfl) rfl rfl rfl) rfl rfl ?_
  refine XR_a (op_eql rfl rfl) rfl rfl ?_
  refine XA rfl rfl rfl (XR_nil ?_)
  refine X_ret (.cons (.tmp rfl) .nil) ?_
  refine ⟨congrArg Value.bool (decide_eq_decide.2 ?_), st.low⟩
  rw [if_pos h]
 ·have hlen := h
  refine X_skip (X_seq (X_reg ?_))
  first | refine XR_a (op_field0 rfl rfl) rfl rfl ?_ | refine XR_a (op_fieldn rfl rfl) rfl rfl ?_
  refine XR_a (op_ld (st.cell 0 (i := 0) rfl rfl) rfl rfl rfl) rfl rfl ?_
  refine XR_a (op_eql rfl rfl) rfl rfl ?_
  refine XV rfl rfl rfl ?_
  refine XR_if 12 rfl (fun h => ?_) (fun h => ?_)
  ·first | refine XR_a (op_field0 rfl rfl) rfl rfl ?_ | refine XR_a (op_fieldn rfl rfl) rfl rfl ?_
   refine XR_a (op_ld (st.cell 0 (i := 1) rfl rfl) rfl rfl rfl) rfl rfl ?_
   refine XR_wa (opl_call (tin_spec _ _ _ _) rfl (by kernel_rfl)) rfl rfl rfl ?_
   rintro _ _ ⟨rfl, rfl⟩
   refine XR_a (op_pick_t rfl rfl) rfl rfl (XV rfl rfl rfl ?_)
   refine XR_if 17 rfl (fun h => ?_) (fun h => ?_)
   ·first | refine XR_a (op_field0 rfl rfl) rfl rfl ?_ | refine XR_a (op_fieldn rfl rfl) rfl rfl ?_
    refine XR_a (op_ld (st.cell 0 (i := 2) rfl rfl) rfl rfl rfl) rfl rfl ?_
    refine XR_wa (opl_call (tin_spec _ _ _ _) rfl (by kernel_rfl)) rfl rfl rfl ?_
    rintro _ _ ⟨rfl, rfl⟩
    refine XR_a (op_pick_t rfl rfl) rfl rfl (XA rfl rfl rfl (XR_nil ?_))
    refine X_ret (.cons (.tmp rfl) .nil) ?_
    refine ⟨congrArg Value.bool (decide_eq_decide.2 ?_), st.low⟩
    rw [if_neg hlen]
    rename_i hb
    exact ⟨fun hh => ⟨hb, h.1, h.2, hh.1, hh.2⟩, fun hh => ⟨hh.2.2.2.1, hh.2.2.2.2⟩⟩
   ·refine XR_no rfl rfl (XR_no rfl rfl (XR_no rfl rfl (XR_a (op_pick_f rfl rfl) rfl rfl (XA rfl rfl rfl (XR_nil ?_)))))
    refine X_ret (.cons (.tmp rfl) .nil) ?_
    refine ⟨congrArg Value.bool (decide_eq_false ?_).symm, st.low⟩
    rw [if_neg hlen]
    rintro ⟨h1, h2, h3, h4⟩; exact h ⟨h2, h3⟩
  ·refine XR_no rfl rfl (XR_no rfl rfl (XR_no rfl rfl (XR_a (op_pick_f rfl rfl) rfl rfl (XV rfl rfl rfl (XR_no rfl rfl (XR_no rfl rfl (XR_no rfl rfl (XR_a (op_pick_f rfl rfl) rfl rfl (XA rfl rfl rfl ?_)))))))))
   refine XR_nil ?_
   refine X_ret (.cons (.tmp rfl) .nil) ?_
   refine ⟨congrArg Value.bool (decide_eq_false ?_).symm, st.low⟩
   rw [if_neg hlen]
   rintro ⟨h1, _⟩; exact h h1
theorem tright_ref (t : Tok) (h0 : Heap) : Ret Tryz.prog 46 [.agg #[.int .u8 t.byte, .int .i64 t.len, .int .i64 t.dist]] h0 fun r h' => r = .bool (decide t.right) ∧ Ext h0 h' := by
  refine ret_of_X Tryz.func46 rfl rfl fun w0 hw0 => ?_
  simp only [argE, Nat.zero_add, Nat.reduceAdd]
  have st := St.start h0
  unfold Tok.right
  refine X_seq ?_
  refine X_reg ?_
  refine XR_wa (opl_bx rfl rfl) rfl rfl rfl ?_
  rintro _ hp ⟨p, rfl, hnew⟩
  have st := st.new hnew
  refine XR_a (op_assign rfl) rfl rfl ?_
  refine XR_nil ?_
  refine X_seq ?_
  refine X_seq ?_
  refine X_reg ?_
  first | refine XR_a (op_field0 rfl rfl) rfl rfl ?_ | refine XR_a (op_fieldn rfl rfl) rfl rfl ?_
  refine XR_a (op_ld (st.cell 0 (i := 1) rfl rfl) rfl rfl rfl) rfl rfl ?_
  refine XR_a (op_eql rfl rfl) rfl rfl ?_
  refine XR_a (op_move rfl) rfl rfl ?_
  refine XR_if 6 rfl (fun h => ?_) (fun h => ?_)
  · first | refine XR_a (op_field0 rfl rfl) rfl rfl ?_ | refine XR_a (op_fieldn rfl rfl) rfl rfl ?_
    refine XR_a (op_ld (st.cell 0 (i := 2) rfl rfl) rfl rfl rfl) rfl rfl ?_
    refine XR_a (op_eql rfl rfl) rfl rfl ?_
    refine XR_a (op_pick_t rfl rfl) rfl rfl ?_
    refine XR_nil ?_
    refine X_if rfl (fun h => ?_) (fun h => ?_)
    · refine X_seq ?_
      refine X_reg ?_
      refine XR_a (op_assign rfl) rfl rfl ?_
      refine XR_nil ?_
      refine X_ret (.cons (.tmp rfl) .nil) ?_
      refine ⟨congrArg Value.bool (decide_eq_true ?_).symm, st.low⟩
      rw [if_pos (by omega)]; omega
    · refine X_skip ?_
      refine X_seq ?_
      refine X_reg ?_
      first | refine XR_a (op_field0 rfl rfl) rfl rfl ?_ | refine XR_a (op_fieldn rfl rfl) rfl rfl ?_
      refine XR_a (op_ld (st.cell 0 (i := 0) rfl rfl) rfl rfl rfl) rfl rfl ?_
      refine XR_a (op_eql rfl rfl) rfl rfl ?_
      refine XR_a (op_move rfl) rfl rfl ?_
      refine XR_if 14 rfl (fun h => ?_) (fun h => ?_)
      · first | refine XR_a (op_field0 rfl rfl) rfl rfl ?_ | refine XR_a (op_fieldn rfl rfl) rfl rfl ?_
        refine XR_a (op_ld (st.cell 0 (i := 1) rfl rfl) rfl rfl rfl) rfl rfl ?_
        refine XR_a (op_gtr rfl rfl) rfl rfl ?_
        refine XR_a (op_pick_t rfl rfl) rfl rfl ?_
        refine XR_a (op_move rfl) rfl rfl ?_
        refine XR_if 19 rfl (fun h => ?_) (fun h => ?_)
        · first | refine XR_a (op_field0 rfl rfl) rfl rfl ?_ | refine XR_a (op_fieldn rfl rfl) rfl rfl ?_
          refine XR_a (op_ld (st.cell 0 (i := 1) rfl rfl) rfl rfl rfl) rfl rfl ?_
          refine XR_a (op_lss rfl rfl) rfl rfl ?_
          refine XR_a (op_pick_t rfl rfl) rfl rfl ?_
          refine XR_a (op_move rfl) rfl rfl ?_
          refine XR_if 24 rfl (fun h => ?_) (fun h => ?_)
          · first | refine XR_a (op_field0 rfl rfl) rfl rfl ?_ | refine XR_a (op_fieldn rfl rfl) rfl rfl ?_
            refine XR_a (op_ld (st.cell 0 (i := 2) rfl rfl) rfl rfl rfl) rfl rfl ?_
            refine XR_a (op_gtr rfl rfl) rfl rfl ?_
            refine XR_a (op_pick_t rfl rfl) rfl rfl ?_
            refine XR_a (op_move rfl) rfl rfl ?_
            refine XR_if 29 rfl (fun h => ?_) (fun h => ?_)
            · first | refine XR_a (op_field0 rfl rfl) rfl rfl ?_ | refine XR_a (op_fieldn rfl rfl) rfl rfl ?_
              refine XR_a (op_ld (st.cell 0 (i := 2) rfl rfl) rfl rfl rfl) rfl rfl ?_
              refine XR_a (op_lss rfl rfl) rfl rfl ?_
              refine XR_a (op_pick_t rfl rfl) rfl rfl ?_
              refine XR_a (op_assign rfl) rfl rfl ?_
              refine XR_nil ?_
              refine X_ret (.cons (.tmp rfl) .nil) ?_
              refine ⟨congrArg Value.bool ?_, st.low⟩
              first
                | (refine (decide_eq_false ?_).symm
                   intro hh
                   split at hh <;> omega)
                | (refine decide_eq_decide.2 ⟨fun hh => ?_, fun hh => ?_⟩
                   · rw [if_neg (by omega)]; omega
                   · split at hh <;> omega)
            · refine XR_no rfl rfl ?_
              refine XR_no rfl rfl ?_
              refine XR_no rfl rfl ?_
              refine XR_a (op_pick_f rfl rfl) rfl rfl ?_
              refine XR_a (op_assign rfl) rfl rfl ?_
              refine XR_nil ?_
              refine X_ret (.cons (.tmp rfl) .nil) ?_
              refine ⟨congrArg Value.bool ?_, st.low⟩
              first
                | (refine (decide_eq_false ?_).symm
                   intro hh
                   split at hh <;> omega)
                | (refine decide_eq_decide.2 ⟨fun hh => ?_, fun hh => ?_⟩
                   · rw [if_neg (by omega)]; omega
                   · split at hh <;> omega)
          · refine XR_no rfl rfl ?_
            refine XR_no rfl rfl ?_
            refine XR_no rfl rfl ?_
            refine XR_a (op_pick_f rfl rfl) rfl rfl ?_
            refine XR_a (op_move rfl) rfl rfl ?_
            refine XR_no rfl rfl ?_
            refine XR_no rfl rfl ?_
            refine XR_no rfl rfl ?_
            refine XR_a (op_pick_f rfl rfl) rfl rfl ?_
            refine XR_a (op_assign rfl) rfl rfl ?_
            refine XR_nil ?_
            refine X_ret (.cons (.tmp rfl) .nil) ?_
            refine ⟨congrArg Value.bool ?_, st.low⟩
            first
              | (refine (decide_eq_false ?_).symm
                 intro hh
                 split at hh <;> omega)
              | (refine decide_eq_decide.2 ⟨fun hh => ?_, fun hh => ?_⟩
                 · rw [if_neg (by omega)]; omega
                 · split at hh <;> omega)
        · refine XR_no rfl rfl ?_
          refine XR_no rfl rfl ?_
          refine XR_no rfl rfl ?_
          refine XR_a (op_pick_f rfl rfl) rfl rfl ?_
          refine XR_a (op_move rfl) rfl rfl ?_
          refine XR_no rfl rfl ?_
          refine XR_no rfl rfl ?_
          refine XR_no rfl rfl ?_
          refine XR_a (op_pick_f rfl rfl) rfl rfl ?_
          refine XR_a (op_move rfl) rfl rfl ?_
          refine XR_no rfl rfl ?_
          refine XR_no rfl rfl ?_
          refine XR_no rfl rfl ?_
          refine XR_a (op_pick_f rfl rfl) rfl rfl ?_
          refine XR_a (op_assign rfl) rfl rfl ?_
          refine XR_nil ?_
          refine X_ret (.cons (.tmp rfl) .nil) ?_
          refine ⟨congrArg Value.bool ?_, st.low⟩
          first
            | (refine (decide_eq_false ?_).symm
               intro hh
               split at hh <;> omega)
            | (refine decide_eq_decide.2 ⟨fun hh => ?_, fun hh => ?_⟩
               · rw [if_neg (by omega)]; omega
               · split at hh <;> omega)
      · refine XR_no rfl rfl ?_
        refine XR_no rfl rfl ?_
        refine XR_no rfl rfl ?_
        refine XR_a (op_pick_f rfl rfl) rfl rfl ?_
        refine XR_a (op_move rfl) rfl rfl ?_
        refine XR_no rfl rfl ?_
        refine XR_no rfl rfl ?_
        refine XR_no rfl rfl ?_
        refine XR_a (op_pick_f rfl rfl) rfl rfl ?_
        refine XR_a (op_move rfl) rfl rfl ?_
        refine XR_no rfl rfl ?_
        refine XR_no rfl rfl ?_
        refine XR_no rfl rfl ?_
        refine XR_a (op_pick_f rfl rfl) rfl rfl ?_
        refine XR_a (op_move rfl) rfl rfl ?_
        refine XR_no rfl rfl ?_
        refine XR_no rfl rfl ?_
        refine XR_no rfl rfl ?_
        refine XR_a (op_pick_f rfl rfl) rfl rfl ?_
        refine XR_a (op_assign rfl) rfl rfl ?_
        refine XR_nil ?_
        refine X_ret (.cons (.tmp rfl) .nil) ?_
        refine ⟨congrArg Value.bool ?_, st.low⟩
        first
          | (refine (decide_eq_false ?_).symm
             intro hh
             split at hh <;> omega)
          | (refine decide_eq_decide.2 ⟨fun hh => ?_, fun hh => ?_⟩
             · rw [if_neg (by omega)]; omega
             · split at hh <;> omega)
  · refine XR_no rfl rfl ?_
    refine XR_no rfl rfl ?_
    refine XR_no rfl rfl ?_
    refine XR_a (op_pick_f rfl rfl) rfl rfl ?_
    refine XR_nil ?_
    refine X_else rfl ?_
    refine X_skip ?_
    refine X_seq ?_
    refine X_reg ?_
    first | refine XR_a (op_field0 rfl rfl) rfl rfl ?_ | refine XR_a (op_fieldn rfl rfl) rfl rfl ?_
    refine XR_a (op_ld (st.cell 0 (i := 0) rfl rfl) rfl rfl rfl) rfl rfl ?_
    refine XR_a (op_eql rfl rfl) rfl rfl ?_
    refine XR_a (op_move rfl) rfl rfl ?_
    refine XR_if 14 rfl (fun h => ?_) (fun h => ?_)
    · first | refine XR_a (op_field0 rfl rfl) rfl rfl ?_ | refine XR_a (op_fieldn rfl rfl) rfl rfl ?_
      refine XR_a (op_ld (st.cell 0 (i := 1) rfl rfl) rfl rfl rfl) rfl rfl ?_
      refine XR_a (op_gtr rfl rfl) rfl rfl ?_
      refine XR_a (op_pick_t rfl rfl) rfl rfl ?_
      refine XR_a (op_move rfl) rfl rfl ?_
      refine XR_if 19 rfl (fun h => ?_) (fun h => ?_)
      · first | refine XR_a (op_field0 rfl rfl) rfl rfl ?_ | refine XR_a (op_fieldn rfl rfl) rfl rfl ?_
        refine XR_a (op_ld (st.cell 0 (i := 1) rfl rfl) rfl rfl rfl) rfl rfl ?_
        refine XR_a (op_lss rfl rfl) rfl rfl ?_
        refine XR_a (op_pick_t rfl rfl) rfl rfl ?_
        refine XR_a (op_move rfl) rfl rfl ?_
        refine XR_if 24 rfl (fun h => ?_) (fun h => ?_)
        · first | refine XR_a (op_field0 rfl rfl) rfl rfl ?_ | refine XR_a (op_fieldn rfl rfl) rfl rfl ?_
          refine XR_a (op_ld (st.cell 0 (i := 2) rfl rfl) rfl rfl rfl) rfl rfl ?_
          refine XR_a (op_gtr rfl rfl) rfl rfl ?_
          refine XR_a (op_pick_t rfl rfl) rfl rfl ?_
          refine XR_a (op_move rfl) rfl rfl ?_
          refine XR_if 29 rfl (fun h => ?_) (fun h => ?_)
          · first | refine XR_a (op_field0 rfl rfl) rfl rfl ?_ | refine XR_a (op_fieldn rfl rfl) rfl rfl ?_
            refine XR_a (op_ld (st.cell 0 (i := 2) rfl rfl) rfl rfl rfl) rfl rfl ?_
            refine XR_a (op_lss rfl rfl) rfl rfl ?_
            refine XR_a (op_pick_t rfl rfl) rfl rfl ?_
            refine XR_a (op_assign rfl) rfl rfl ?_
            refine XR_nil ?_
            refine X_ret (.cons (.tmp rfl) .nil) ?_
            refine ⟨congrArg Value.bool ?_, st.low⟩
            first
              | (refine (decide_eq_false ?_).symm
                 intro hh
                 split at hh <;> omega)
              | (refine decide_eq_decide.2 ⟨fun hh => ?_, fun hh => ?_⟩
                 · rw [if_neg (by omega)]; omega
                 · split at hh <;> omega)
          · refine XR_no rfl rfl ?_
            refine XR_no rfl rfl ?_
            refine XR_no rfl rfl ?_
            refine XR_a (op_pick_f rfl rfl) rfl rfl ?_
            refine XR_a (op_assign rfl) rfl rfl ?_
            refine XR_nil ?_
            refine X_ret (.cons (.tmp rfl) .nil) ?_
            refine ⟨congrArg Value.bool ?_, st.low⟩
            first
              | (refine (decide_eq_false ?_).symm
                 intro hh
                 split at hh <;> omega)
              | (refine decide_eq_decide.2 ⟨fun hh => ?_, fun hh => ?_⟩
                 · rw [if_neg (by omega)]; omega
                 · split at hh <;> omega)
        · refine XR_no rfl rfl ?_
          refine XR_no rfl rfl ?_
          refine XR_no rfl rfl ?_
          refine XR_a (op_pick_f rfl rfl) rfl rfl ?_
          refine XR_a (op_move rfl) rfl rfl ?_
          refine XR_no rfl rfl ?_
          refine XR_no rfl rfl ?_
          refine XR_no rfl rfl ?_
          refine XR_a (op_pick_f rfl rfl) rfl rfl ?_
          refine XR_a (op_assign rfl) rfl rfl ?_
          refine XR_nil ?_
          refine X_ret (.cons (.tmp rfl) .nil) ?_
          refine ⟨congrArg Value.bool ?_, st.low⟩
          first
            | (refine (decide_eq_false ?_).symm
               intro hh
               split at hh <;> omega)
            | (refine decide_eq_decide.2 ⟨fun hh => ?_, fun hh => ?_⟩
               · rw [if_neg (by omega)]; omega
               · split at hh <;> omega)
      · refine XR_no rfl rfl ?_
        refine XR_no rfl rfl ?_
        refine XR_no rfl rfl ?_
        refine XR_a (op_pick_f rfl rfl) rfl rfl ?_
        refine XR_a (op_move rfl) rfl rfl ?_
        refine XR_no rfl rfl ?_
        refine XR_no rfl rfl ?_
        refine XR_no rfl rfl ?_
        refine XR_a (op_pick_f rfl rfl) rfl rfl ?_
        refine XR_a (op_move rfl) rfl rfl ?_
        refine XR_no rfl rfl ?_
        refine XR_no rfl rfl ?_
        refine XR_no rfl rfl ?_
        refine XR_a (op_pick_f rfl rfl) rfl rfl ?_
        refine XR_a (op_assign rfl) rfl rfl ?_
        refine XR_nil ?_
        refine X_ret (.cons (.tmp rfl) .nil) ?_
        refine ⟨congrArg Value.bool ?_, st.low⟩
        first
          | (refine (decide_eq_false ?_).symm
             intro hh
             split at hh <;> omega)
          | (refine decide_eq_decide.2 ⟨fun hh => ?_, fun hh => ?_⟩
             · rw [if_neg (by omega)]; omega
             · split at hh <;> omega)
    · refine XR_no rfl rfl ?_
      refine XR_no rfl rfl ?_
      refine XR_no rfl rfl ?_
      refine XR_a (op_pick_f rfl rfl) rfl rfl ?_
      refine XR_a (op_move rfl) rfl rfl ?_
      refine XR_no rfl rfl ?_
      refine XR_no rfl rfl ?_
      refine XR_no rfl rfl ?_
      refine XR_a (op_pick_f rfl rfl) rfl rfl ?_
      refine XR_a (op_move rfl) rfl rfl ?_
      refine XR_no rfl rfl ?_
      refine XR_no rfl rfl ?_
      refine XR_no rfl rfl ?_
      refine XR_a (op_pick_f rfl rfl) rfl rfl ?_
      refine XR_a (op_move rfl) rfl rfl ?_
      refine XR_no rfl rfl ?_
      refine XR_no rfl rfl ?_
      refine XR_no rfl rfl ?_
      refine XR_a (op_pick_f rfl rfl) rfl rfl ?_
      refine XR_a (op_assign rfl) rfl rfl ?_
      refine XR_nil ?_
      refine X_ret (.cons (.tmp rfl) .nil) ?_
      refine ⟨congrArg Value.bool ?_, st.low⟩
      first
        | (refine (decide_eq_false ?_).symm
           intro hh
           split at hh <;> omega)
        | (refine decide_eq_decide.2 ⟨fun hh => ?_, fun hh => ?_⟩
           · rw [if_neg (by omega)]; omega
           · split at hh <;> omega)
theorem ssplit_spec {t : Tok} (hb : 0 ≤ t.byte ∧ t.byte < 256) (h0 : Heap) : Ret Tryz.prog 77 [.agg #[.int .u8 t.byte, .int .i64 t.len, .int .i64 t.dist]] h0 fun r h' => r = retVal [.agg (syV (splitT t).1).toArray, .bool (splitT t).2] ∧ Ext h0 h' := by
 refine ret_of_X Tryz.func77 rfl rfl fun w0 hw0 => ?_
 simp only [argE, Nat.zero_add, Nat.reduceAdd]
 have st := St.start h0
 refine X_seq (X_reg ?_)
 refine XR_wa (opl_bx rfl rfl) rfl rfl rfl ?_
 rintro _ hp ⟨p, rfl, hnew⟩
 have st := st.new hnew
 refine XR_wa (opl_new rfl) rfl rfl rfl ?_
 rintro _ hp ⟨pp1, rfl, hnew⟩
 replace st := st.new hnew
 refine XA rfl rfl rfl (XR_nil (X_seq (X_seq (X_reg ?_))))
 refine XR_a (op_ldA (st.cells 1 rfl) rfl rfl rfl rfl) rfl rfl ?_
 refine XR_wa (opl_call (tright_spec t _) rfl (by kernel_rfl)) rfl rfl rfl ?_
 rintro _ hp ⟨rfl, hx⟩
 replace st := st.ext hx
 first | refine XR_a (op_notd rfl) rfl rfl ?_ | refine XR_a (op_not rfl) rfl rfl ?_
 refine XR_nil ?_
 refine X_if rfl (fun h => ?_) (fun h => ?_)
 ·refine X_seq (X_reg ?_)
  refine XR_a (op_build (ps := []) (cs := (syV Sy.nil).toArray) rfl rfl) rfl rfl ?_
  refine XR_wn (opl_store_whole (us := syV Sy.nil) st 0 rfl rfl rfl rfl rfl (syV_one _) rfl) rfl rfl fun _ hp st => ?_
  simp only [List.set_cons_zero, List.set_cons_succ] at st
  refine XA rfl rfl rfl (XR_nil ?_)
  refine X_ret (.cons (RV_agg (vs := syV Sy.nil) rfl rfl rfl (st.cells 0 rfl)) (.cons (.tmp rfl) .nil)) ?_
  have e : splitT t = (Sy.nil, false) := by unfold splitT; rw [if_neg h]
  rw [e]
  exact ⟨rfl, st.low⟩
 ·have hr := Decidable.not_not.1 h
  have e : splitT t = (splitY t, true) := by unfold splitT; rw [if_pos hr]
  rw [e]
  refine X_skip (X_seq (X_seq (X_reg ?_)))
  first | refine XR_a (op_field0 rfl rfl) rfl rfl ?_ | refine XR_a (op_fieldn rfl rfl) rfl rfl ?_
  refine XR_a (op_ld (st.cell 1 (i := 1) rfl rfl) rfl rfl rfl) rfl rfl ?_
  refine XR_a (op_eql rfl rfl) rfl rfl ?_
  refine XR_nil ?_
  refine X_if rfl (fun h => ?_) (fun h => ?_)
  ·have e1 : splitY t = ⟨⟨t.byte, 0, 0⟩, Kls.nil, false⟩ := by unfold splitY; rw [if_pos h]
   rw [e1]
   refine X_seq (X_reg ?_)
   first | refine XR_a (op_field0 rfl rfl) rfl rfl ?_ | refine XR_a (op_fieldn rfl rfl) rfl rfl ?_
   refine XR_a (op_ld (st.cell 1 (i := 0) rfl rfl) rfl rfl rfl) rfl rfl ?_
   refine XR_a (op_conv rfl rfl) rfl rfl ?_
   refine XR_as (.int .i64 t.byte) (by rw [wrap_in (by simp only [inK]; omega)]) ?_
   refine XR_a (op_build (ps := [(0, .int .i64 t.byte)]) (cs := (clsV ⟨t.byte, 0, 0⟩).toArray) rfl rfl) rfl rfl ?_
   refine XR_a (op_build (ps := [(0, .agg (clsV ⟨t.byte, 0, 0⟩).toArray)]) (cs := (syV ⟨⟨t.byte, 0, 0⟩, Kls.nil, false⟩).toArray) rfl rfl) rfl rfl ?_
   refine XR_wn (opl_store_whole (us := syV ⟨⟨t.byte, 0, 0⟩, Kls.nil, false⟩) st 0 rfl rfl rfl rfl rfl (syV_one _) rfl) rfl rfl fun _ hp st => ?_
   simp only [List.set_cons_zero, List.set_cons_succ] at st
   refine XA rfl rfl rfl (XR_nil ?_)
   refine X_ret (.cons (RV_agg (vs := syV ⟨⟨t.byte, 0, 0⟩, Kls.nil, false⟩) rfl rfl rfl (st.cells 0 rfl)) (.cons (.tmp rfl) .nil)) ?_
   exact ⟨rfl, st.low⟩
  ·have hr' := hr
   unfold Tok.right at hr'
   rw [if_neg h] at hr'
   obtain ⟨r1, r2, r3, r4, r5⟩ := hr'
   have e1 : splitY t = ⟨⟨(klsOf (t.len - 3).toNat).num + 257, (klsOf (t.len - 3).toNat).bits, (klsOf (t.len - 3).toNat).ext⟩, klsOf (t.dist - 1).toNat, true⟩ := by unfold splitY; rw [if_neg h]
   have o1 : ofC (t.len - 3) = (klsOf (t.len - 3).toNat, true) := by unfold ofC; rw [if_neg (by omega)]
   have o2 : ofC (t.dist - 1) = (klsOf (t.dist - 1).toNat, true) := by unfold ofC; rw [if_neg (by omega)]
   have k1 := klsN_255 (v := (t.len - 3).toNat) (by omega)
   have n1 : (klsOf (t.len - 3).toNat).num = klsN (t.len - 3).toNat := rfl
   rw [e1]
   refine X_skip (X_seq (X_reg ?_))
   first | refine XR_a (op_field0 rfl rfl) rfl rfl ?_ | refine XR_a (op_fieldn rfl rfl) rfl rfl ?_
   refine XR_a (op_ld (st.cell 1 (i := 1) rfl rfl) rfl rfl rfl) rfl rfl ?_
   refine XR_a (op_subI rfl rfl (by simp only [inK]; omega)) rfl rfl ?_
   refine XR_wa (opl_call (sof_spec _) rfl (by kernel_rfl)) rfl rfl rfl ?_
   rintro _ hp ⟨rfl, hx⟩
   replace st := st.ext hx
   rw [o1]
   generalize klsOf (t.len - 3).toNat = a at *
   generalize klsOf (t.dist - 1).toNat = b at *
   refine XV rfl rfl rfl (XR_a (op_extract rfl rfl) rfl rfl (XR_a (op_extract rfl rfl) rfl rfl ?_))
   refine XR_wa (opl_new rfl) rfl rfl rfl ?_
   rintro _ hp ⟨pp2, rfl, hnew⟩
   replace st := st.new hnew
   refine XR_wn (opl_store_whole (us := clsV a) st 0 rfl rfl rfl rfl rfl (clsV_one _) rfl) rfl rfl fun _ hp st => ?_
   simp only [List.set_cons_zero, List.set_cons_succ] at st
   refine XA rfl rfl rfl (XR_nil (X_seq (X_reg ?_)))
   first | refine XR_a (op_field0 rfl rfl) rfl rfl ?_ | refine XR_a (op_fieldn rfl rfl) rfl rfl ?_
   refine XR_a (op_ld (st.cell 2 (i := 2) rfl rfl) rfl rfl rfl) rfl rfl ?_
   refine XR_a (op_subI rfl rfl (by simp only [inK]; omega)) rfl rfl ?_
   refine XR_wa (opl_call (sof_spec _) rfl (by kernel_rfl)) rfl rfl rfl ?_
   rintro _ hp ⟨rfl, hx⟩
   replace st := st.ext hx
   rw [o2]
   refine XV rfl rfl rfl (XR_a (op_extract rfl rfl) rfl rfl (XR_a (op_extract rfl rfl) rfl rfl ?_))
   refine XR_wa (opl_new rfl) rfl rfl rfl ?_
   rintro _ hp ⟨pp3, rfl, hnew⟩
   replace st := st.new hnew
   refine XR_wn (opl_store_whole (us := clsV b) st 0 rfl rfl rfl rfl rfl (clsV_one _) rfl) rfl rfl fun _ hp st => ?_
   simp only [List.set_cons_zero, List.set_cons_succ] at st
   refine XA rfl rfl rfl (XR_nil (X_seq (X_reg ?_)))
   first | refine XR_a (op_field0 rfl rfl) rfl rfl ?_ | refine XR_a (op_fieldn rfl rfl) rfl rfl ?_
   refine XR_a (op_ld (st.cell 1 (i := 0) rfl rfl) rfl rfl rfl) rfl rfl ?_
   refine XR_a (op_addI rfl rfl (by simp only [inK]; omega)) rfl rfl ?_
   first | refine XR_a (op_field0 rfl rfl) rfl rfl ?_ | refine XR_a (op_fieldn rfl rfl) rfl rfl ?_
   refine XR_wn (opl_store_pt st 1 rfl rfl rfl rfl rfl (rfl)) rfl rfl fun _ hp st => ?_
   simp only [List.set_cons_zero, List.set_cons_succ] at st
   refine XR_nil (X_seq (X_reg ?_))
   refine XR_a (op_ldA (vs := clsV ⟨a.num + 257, a.bits, a.ext⟩) (st.cells 1 rfl) rfl rfl rfl rfl) rfl rfl ?_
   refine XR_a (op_ldA (vs := clsV b) (st.cells 0 rfl) rfl rfl rfl rfl) rfl rfl ?_
   refine XR_a (op_build (ps := [(0, .agg (clsV ⟨a.num + 257, a.bits, a.ext⟩).toArray), (1, .agg (clsV b).toArray), (2, .bool true)]) (cs := (syV ⟨⟨a.num + 257, a.bits, a.ext⟩, b, true⟩).toArray) rfl rfl) rfl rfl ?_
   refine XR_wn (opl_store_whole (us := syV ⟨⟨a.num + 257, a.bits, a.ext⟩, b, true⟩) st 2 rfl rfl rfl rfl rfl (syV_one _) rfl) rfl rfl fun _ hp st => ?_
   simp only [List.set_cons_zero, List.set_cons_succ] at st
   refine XA rfl rfl rfl (XR_nil ?_)
   refine X_ret (.cons (RV_agg (vs := syV ⟨⟨a.num + 257, a.bits, a.ext⟩, b, true⟩) rfl rfl rfl (st.cells 2 rfl)) (.cons (.tmp rfl) .nil)) ?_
   exact ⟨rfl, st.low⟩
end Go.Bn
end

section
set_option linter.unusedVariables false
set_option linter.unusedSimpArgs false
set_option maxHeartbeats 4000000
set_option maxRecDepth 20000
namespace Go.Bn
open Go Proofs
theorem tok_fit {sz : Nat} {ts : List Tok} {i : Nat} (hi : i < ts.length) (hd : distOK sz (ts.drop i)) : ts[i].dist ≤ sz ∧ distOK (sz + ts[i].size) (ts.drop (i + 1)) := by
 rw [List.drop_eq_getElem_cons hi] at hd
 exact hd
theorem size_drop {ts : List Tok} {i : Nat} (hi : i < ts.length) : sizeT (ts.drop i) = ts[i].size + sizeT (ts.drop (i + 1)) := by
 rw [List.drop_eq_getElem_cons hi, sizeT_cons]
theorem expL_take {ts : List Tok} {i : Nat} (hi : i < ts.length) : expL (ts.take (i + 1)) [] = expT ts[i] (expL (ts.take i) []) := by
 rw [List.take_succ_eq_append_getElem hi, expL_snoc]
theorem copy_step {L k D : Nat} {out : List UInt8} (h : k < L) : copyT (L - k) D out = copyT (L - (k + 1)) D (out ++ [out.getD (out.length - D) 0]) := by
 obtain ⟨j, hj⟩ : ∃ j, L - k = j + 1 := ⟨L - k - 1, by omega⟩
 rw [hj, copyT, show L - (k + 1) = j by omega]
theorem texpand_spec {n c most : Nat} {A : Option Addr} {ts : List Tok} {h0 : Heap} (hr : Rd h0 A (ts.flatMap tokV)) (hl : ts.length = n) (hn : n ≤ 1099511627776) (hk : TokOk ts) (hm : sizeT ts ≤ most) (hmb : most ≤ 1048576) :
  Ret Tryz.prog 87 [.slice A n c, nV most] h0 fun v h' => ∃ w, v = retVal [w, nV 0] ∧ St h0.size h0 h' [row 5 1 w ((expL ts []).map byteV)] := by
 refine ret_of_X Tryz.func87 rfl rfl fun w0 hw0 => ?_
 simp only [argE, Nat.zero_add, Nat.reduceAdd]
 have st := (St.start h0).nilrow 5 1
 refine X_seq (X_reg (XA rfl rfl rfl (XA rfl rfl rfl (XR_nil (X_seq (X_reg (XA rfl rfl rfl (XR_nil (X_seq ?_)))))))))
 refine X_seq (X_reg (XV rfl rfl rfl ?_))
 refine XR_a (op_len rfl rfl rfl) rfl rfl ?_
 refine XV rfl rfl rfl (XR_nil (X_block ?_))
 refine X_loop (fun s => n - s.1) (fun s => [(1, nV most), (6, s.2), (10, .slice A n c), (11, nV n), (12, nV s.1)])
  (fun (s : Nat × Value) hp => s.1 ≤ n ∧ distOK (expL (ts.take s.1) []).length (ts.drop s.1) ∧ (expL (ts.take s.1) []).length + sizeT (ts.drop s.1) ≤ most ∧ St h0.size h0 hp [row 5 1 s.2 ((expL (ts.take s.1) []).map byteV)])
  (0, _) (.cons rfl (.cons rfl (.cons rfl (.cons rfl (.cons rfl (.nil _)))))) ⟨Nat.zero_le _, hk.dist, by simp only [List.take_zero, List.drop_zero]; show 0 + sizeT ts ≤ most; omega, st⟩ ?_
 clear st
 rintro ⟨i, v⟩ hp ⟨hi, hd, hs, st⟩
 simp only at hi hd hs st ⊢
 obtain ⟨A6, n6, c6, rfl, hl6, _⟩ := st.row 0 rfl
 rw [List.length_map, Nat.mul_one] at hl6
 refine X_seq (X_reg ?_)
 refine XR_a (op_lss rfl rfl) rfl rfl ?_
 refine XR_nil (X_seq ?_)
 refine X_if rfl (fun h => ?_) (fun h => ?_)
 ·have hil : i < ts.length := by omega
  have hex := expL_take hil
  obtain ⟨hd1, hd2⟩ := tok_fit hil hd
  rw [size_drop hil] at hs
  obtain ⟨hx1, hx2⟩ := hk.ok _ (List.getElem_mem hil)
  obtain ⟨g1, og, rfl, hc1⟩ := Rd.flat tokV 3 (hr.ext st.low) (fun _ => rfl) (by omega) (by omega)
  have hcx := hc1 i hil
  obtain ⟨x, hx⟩ : ∃ x, ts[i] = x := ⟨_, rfl⟩
  rw [hx] at hcx hex hd1 hd2 hs hx1 hx2
  have hxs := Tok.size_le hx1
  have hxl := expT_length hx1 (expL (ts.take i) [])
  obtain ⟨out, hout⟩ : ∃ out, expL (ts.take i) [] = out := ⟨_, rfl⟩
  rw [hout] at st hex hd1 hd2 hs hl6 hxl
  have hxr := hx1
  unfold Tok.right at hxr
  have hx0 : 0 ≤ x.len ∧ 0 ≤ x.dist := by split at hxr <;> omega
  refine X_skip (X_seq (X_block (X_seq (X_reg ?_))))
  refine XR_a (op_index (i := i) rfl rfl rfl (by omega)) rfl rfl ?_
  refine XR_a (op_ldA (vs := tokV x) hcx rfl rfl rfl rfl) rfl rfl ?_
  refine XR_wa (opl_new rfl) rfl rfl rfl ?_
  rintro _ hp ⟨p8, rfl, hnew⟩
  replace st := st.new hnew
  refine XR_wn (opl_store_whole (us := tokV x) st 0 rfl rfl rfl rfl rfl (tokV_one x) rfl) rfl rfl fun _ hp st => ?_
  simp only [List.set_cons_zero] at st
  refine XR_nil (X_seq (X_block (X_seq (X_reg ?_))))
  refine XR_a (op_ldA (vs := tokV x) (st.cells 0 rfl) rfl rfl rfl rfl) rfl rfl ?_
  refine XR_wa (opl_call (tright_spec x _) rfl (by kernel_rfl)) rfl rfl rfl ?_
  rintro _ hp2 ⟨rfl, hx2'⟩
  replace st := st.ext hx2'
  rw [decide_eq_true hx1]
  refine XR_a (op_not rfl) rfl rfl ?_
  refine XR_as (.bool false) rfl ?_
  refine XV rfl rfl rfl ?_
  first | refine XR_a (op_field0 rfl rfl) rfl rfl ?_ | refine XR_a (op_fieldn rfl rfl) rfl rfl ?_
  refine XR_a (op_ld (st.cell 0 (i := 2) rfl rfl) rfl rfl rfl) rfl rfl ?_
  refine XV rfl rfl rfl ?_
  refine XR_a (op_len rfl rfl rfl) rfl rfl ?_
  refine XR_a (op_gtr rfl rfl) rfl rfl ?_
  refine XR_as (.bool false) (congrArg Value.bool (decide_eq_false (by omega))) ?_
  refine XR_a (op_pick_f rfl rfl) rfl rfl (XA rfl rfl rfl (XR_nil (X_else rfl (X_seq (X_reg ?_)))))
  first | refine XR_a (op_field0 rfl rfl) rfl rfl ?_ | refine XR_a (op_fieldn rfl rfl) rfl rfl ?_
  refine XR_a (op_ld (st.cell 0 (i := 1) rfl rfl) rfl rfl rfl) rfl rfl ?_
  refine XR_a (op_max2 rfl rfl) rfl rfl ?_
  refine XV rfl rfl rfl (XV rfl rfl rfl ?_)
  refine XR_a (op_len rfl rfl rfl) rfl rfl ?_
  refine XR_a (op_subN (m := most) (n := n6) rfl rfl (by omega) (by simp only [inK]; omega)) rfl rfl ?_
  refine XR_a (op_gtr rfl rfl) rfl rfl ?_
  refine XR_as (.bool false) (congrArg Value.bool (decide_eq_false (by omega))) ?_
  refine XA rfl rfl rfl (XR_nil (X_else rfl (X_seq (X_reg ?_))))
  first | refine XR_a (op_field0 rfl rfl) rfl rfl ?_ | refine XR_a (op_fieldn rfl rfl) rfl rfl ?_
  refine XR_a (op_ld (st.cell 0 (i := 1) rfl rfl) rfl rfl rfl) rfl rfl ?_
  refine XR_a (op_eql rfl rfl) rfl rfl ?_
  refine XA rfl rfl rfl (XR_nil ?_)
  refine X_if rfl (fun h => ?_) (fun h => ?_)
  ·have hE : expT x out = copyT x.len.toNat x.dist.toNat (out ++ [UInt8.ofNat x.byte.toNat]) := by
    unfold expT; rw [if_pos h, h]; rfl
   refine X_reg (XV rfl rfl rfl ?_)
   first | refine XR_a (op_field0 rfl rfl) rfl rfl ?_ | refine XR_a (op_fieldn rfl rfl) rfl rfl ?_
   refine XR_a (op_ld (st.cell 0 (i := 0) rfl rfl) rfl rfl rfl) rfl rfl ?_
   refine XR_as (byteV (UInt8.ofNat x.byte.toNat)) (congrArg (Value.int .u8) (by rw [UInt8.toNat_ofNat']; omega)) ?_
   refine XR_wa (opl_var1 (v := byteV (UInt8.ofNat x.byte.toNat)) rfl rfl rfl) rfl rfl rfl ?_
   rintro _ hp ⟨Aq, rfl, hxq, hrq⟩
   replace st := st.ext hxq
   refine XR_wa (opl_append st 1 rfl (hrq) (rfl) (one_bytes [_]) (by simp; omega) rfl rfl rfl rfl rfl rfl rfl) rfl rfl rfl fun v hp st => ?_
   simp only [List.set_cons_zero, List.set_cons_succ] at st
   rw [show out.map byteV ++ [byteV (UInt8.ofNat x.byte.toNat)] = (out ++ [UInt8.ofNat x.byte.toNat]).map byteV by rw [List.map_append]; rfl] at st
   obtain ⟨o1, ho1⟩ : ∃ o1, out ++ [UInt8.ofNat x.byte.toNat] = o1 := ⟨_, rfl⟩
   rw [ho1] at hE st
   have ho1l : 0 < x.len.toNat → (x.dist.toNat ≤ o1.length ∧ 1 ≤ x.dist.toNat) := fun hh => absurd hh (by omega)
   have hol : o1.length ≤ 1048576 := by rw [← ho1, List.length_append, List.length_singleton]; omega
   refine XA rfl rfl rfl (XR_nil (X_blk (X_seq (X_reg ?_))))
   first | refine XR_a (op_field0 rfl rfl) rfl rfl ?_ | refine XR_a (op_fieldn rfl rfl) rfl rfl ?_
   refine XR_a (op_ld (st.cell 0 (i := 1) rfl rfl) rfl rfl rfl) rfl rfl ?_
   refine XR_as (nV x.len.toNat) (congrArg (Value.int .i64) (by omega)) ?_
   refine XV rfl rfl rfl (XR_nil (X_block ?_))
   refine X_loop (fun s => x.len.toNat - s.1) (fun s => [(1, nV most), (6, s.2.2), (8, .pointer (some ⟨p8, 0, none⟩)), (10, .slice (some ⟨g1, og, none⟩) n c), (11, nV n), (12, nV i), (46, nV x.len.toNat), (47, nV s.1)])
    (fun (s : Nat × List UInt8 × Value) hp => s.1 ≤ x.len.toNat ∧ copyT (x.len.toNat - s.1) x.dist.toNat s.2.1 = expT x out ∧ s.2.1.length = o1.length + s.1 ∧ St h0.size h0 hp [pt p8 65 (tokV x), row 5 1 s.2.2 (s.2.1.map byteV)])
    (0, o1, _) (.cons rfl (.cons rfl (.cons rfl (.cons rfl (.cons rfl (.cons rfl (.cons rfl (.cons rfl (.nil _))))))))) ⟨Nat.zero_le _, hE.symm, rfl, st⟩ ?_
   clear st
   rintro ⟨k, o2, v2⟩ hp ⟨hk1, hk2, hk3, st⟩
   simp only at hk1 hk2 hk3 st ⊢
   obtain ⟨A7, n7, c7, rfl, hl7, _, _, hr7⟩ := st.row 1 rfl
   rw [List.length_map, Nat.mul_one] at hl7
   subst hl7
   refine X_seq (X_reg ?_)
   refine XR_a (op_lss rfl rfl) rfl rfl ?_
   refine XR_nil (X_seq ?_)
   refine X_if rfl (fun h => ?_) (fun h => ?_)
   ·have hkL : k < x.len.toNat := by omega
    obtain ⟨hD1, hD2⟩ := ho1l (by omega)
    rw [copy_step hkL] at hk2
    obtain ⟨g7, o7, rfl, hc7⟩ := hr7.at_ (by rw [List.length_map]; omega)
    have hci := hc7 (o2.length - x.dist.toNat) (byteV (o2.getD (o2.length - x.dist.toNat) 0)) (by rw [List.getElem?_map, List.getElem?_eq_getElem (by omega), getD_at (by omega)]; rfl)
    refine X_skip (X_seq (X_block (X_seq (X_reg (XV rfl rfl rfl (XV rfl rfl rfl ?_))))))
    refine XR_a (op_len rfl rfl rfl) rfl rfl ?_
    first | refine XR_a (op_field0 rfl rfl) rfl rfl ?_ | refine XR_a (op_fieldn rfl rfl) rfl rfl ?_
    refine XR_a (op_ld (st.cell 0 (i := 2) rfl rfl) rfl rfl rfl) rfl rfl ?_
    refine XR_a (op_subI rfl rfl (by simp only [inK]; omega)) rfl rfl ?_
    refine XR_as (nV (o2.length - x.dist.toNat)) (congrArg (Value.int .i64) (by omega)) ?_
    refine XR_a (op_index1 (i := o2.length - x.dist.toNat) rfl rfl rfl (by omega)) rfl rfl ?_
    refine XR_a (op_ld (hci) rfl rfl rfl) rfl rfl ?_
    refine XA rfl rfl rfl (XR_nil (X_reg (XV rfl rfl rfl (XV rfl rfl rfl ?_))))
    refine XR_wa (opl_var1 (v := byteV (o2.getD (o2.length - x.dist.toNat) 0)) rfl rfl rfl) rfl rfl rfl ?_
    rintro _ hp ⟨Aq, rfl, hxq, hrq⟩
    replace st := st.ext hxq
    refine XR_wa (opl_append st 1 rfl (hrq) (rfl) (one_bytes [_]) (by simp; omega) rfl rfl rfl rfl rfl rfl rfl) rfl rfl rfl fun v hp st => ?_
    simp only [List.set_cons_zero, List.set_cons_succ] at st
    rw [show o2.map byteV ++ [byteV (o2.getD (o2.length - x.dist.toNat) 0)] = (o2 ++ [o2.getD (o2.length - x.dist.toNat) 0]).map byteV by rw [List.map_append]; rfl] at st
    refine XA rfl rfl rfl (XR_nil (X_blk (X_reg ?_)))
    first | refine XR_a (op_addN (n := 1) rfl rfl (by simp only [inK]; omega)) rfl rfl ?_ | refine XR_a (op_addI rfl rfl (by simp only [inK]; omega)) rfl rfl ?_ | refine XR_a (op_add rfl rfl) rfl rfl ?_
    refine XV rfl rfl rfl (XR_nil ?_)
    exact X_again (k + 1, _, _) (.cons rfl (.cons rfl (.cons rfl (.cons rfl (.cons rfl (.cons rfl (.cons rfl (.cons rfl (.nil _))))))))) ⟨by simp only; omega, hk2, by simp only [List.length_append, List.length_singleton]; omega, st⟩ (by simp only; omega)
   ·rw [show x.len.toNat - k = 0 by omega, copyT] at hk2
    rw [show o2.map byteV = (expL (ts.take (i + 1)) []).map byteV by rw [hk2, hex]] at st
    refine X_exit rfl (X_blk (X_reg ?_))
    first | refine XR_a (op_addN (n := 1) rfl rfl (by simp only [inK]; omega)) rfl rfl ?_ | refine XR_a (op_addI rfl rfl (by simp only [inK]; omega)) rfl rfl ?_ | refine XR_a (op_add rfl rfl) rfl rfl ?_
    refine XV rfl rfl rfl (XR_nil ?_)
    refine X_again (i + 1, _) (.cons rfl (.cons rfl (.cons rfl (.cons rfl (.cons rfl (.nil _)))))) ⟨by simp only; omega, ?_, ?_, st.tail⟩ (by simp only; omega)
    ·simp only; rw [hex, hxl]; exact hd2
    ·simp only; rw [hex, hxl]; omega
  ·obtain ⟨o1, ho1⟩ : ∃ o1, out = o1 := ⟨_, rfl⟩
   have hE : expT x out = copyT x.len.toNat x.dist.toNat o1 := by rw [← ho1]; unfold expT; rw [if_neg h]
   have ho1l : 0 < x.len.toNat → (x.dist.toNat ≤ o1.length ∧ 1 ≤ x.dist.toNat) := fun _ => by
    rw [if_neg h] at hxr
    rw [← ho1]; omega
   rw [ho1] at st hl6
   have hol : o1.length ≤ 1048576 := by rw [← ho1]; omega
   refine X_skip (X_blk (X_seq (X_reg ?_)))
   first | refine XR_a (op_field0 rfl rfl) rfl rfl ?_ | refine XR_a (op_fieldn rfl rfl) rfl rfl ?_
   refine XR_a (op_ld (st.cell 0 (i := 1) rfl rfl) rfl rfl rfl) rfl rfl ?_
   refine XR_as (nV x.len.toNat) (congrArg (Value.int .i64) (by omega)) ?_
   refine XV rfl rfl rfl (XR_nil (X_block ?_))
   refine X_loop (fun s => x.len.toNat - s.1) (fun s => [(1, nV most), (6, s.2.2), (8, .pointer (some ⟨p8, 0, none⟩)), (10, .slice (some ⟨g1, og, none⟩) n c), (11, nV n), (12, nV i), (46, nV x.len.toNat), (47, nV s.1)])
    (fun (s : Nat × List UInt8 × Value) hp => s.1 ≤ x.len.toNat ∧ copyT (x.len.toNat - s.1) x.dist.toNat s.2.1 = expT x out ∧ s.2.1.length = o1.length + s.1 ∧ St h0.size h0 hp [pt p8 65 (tokV x), row 5 1 s.2.2 (s.2.1.map byteV)])
    (0, o1, _) (.cons rfl (.cons rfl (.cons rfl (.cons rfl (.cons rfl (.cons rfl (.cons rfl (.cons rfl (.nil _))))))))) ⟨Nat.zero_le _, hE.symm, rfl, st⟩ ?_
   clear st
   rintro ⟨k, o2, v2⟩ hp ⟨hk1, hk2, hk3, st⟩
   simp only at hk1 hk2 hk3 st ⊢
   obtain ⟨A7, n7, c7, rfl, hl7, _, _, hr7⟩ := st.row 1 rfl
   rw [List.length_map, Nat.mul_one] at hl7
   subst hl7
   refine X_seq (X_reg ?_)
   refine XR_a (op_lss rfl rfl) rfl rfl ?_
   refine XR_nil (X_seq ?_)
   refine X_if rfl (fun h => ?_) (fun h => ?_)
   ·have hkL : k < x.len.toNat := by omega
    obtain ⟨hD1, hD2⟩ := ho1l (by omega)
    rw [copy_step hkL] at hk2
    obtain ⟨g7, o7, rfl, hc7⟩ := hr7.at_ (by rw [List.length_map]; omega)
    have hci := hc7 (o2.length - x.dist.toNat) (byteV (o2.getD (o2.length - x.dist.toNat) 0)) (by rw [List.getElem?_map, List.getElem?_eq_getElem (by omega), getD_at (by omega)]; rfl)
    refine X_skip (X_seq (X_block (X_seq (X_reg (XV rfl rfl rfl (XV rfl rfl rfl ?_))))))
    refine XR_a (op_len rfl rfl rfl) rfl rfl ?_
    first | refine XR_a (op_field0 rfl rfl) rfl rfl ?_ | refine XR_a (op_fieldn rfl rfl) rfl rfl ?_
    refine XR_a (op_ld (st.cell 0 (i := 2) rfl rfl) rfl rfl rfl) rfl rfl ?_
    refine XR_a (op_subI rfl rfl (by simp only [inK]; omega)) rfl rfl ?_
    refine XR_as (nV (o2.length - x.dist.toNat)) (congrArg (Value.int .i64) (by omega)) ?_
    refine XR_a (op_index1 (i := o2.length - x.dist.toNat) rfl rfl rfl (by omega)) rfl rfl ?_
    refine XR_a (op_ld (hci) rfl rfl rfl) rfl rfl ?_
    refine XA rfl rfl rfl (XR_nil (X_reg (XV rfl rfl rfl (XV rfl rfl rfl ?_))))
    refine XR_wa (opl_var1 (v := byteV (o2.getD (o2.length - x.dist.toNat) 0)) rfl rfl rfl) rfl rfl rfl ?_
    rintro _ hp ⟨Aq, rfl, hxq, hrq⟩
    replace st := st.ext hxq
    refine XR_wa (opl_append st 1 rfl (hrq) (rfl) (one_bytes [_]) (by simp; omega) rfl rfl rfl rfl rfl rfl rfl) rfl rfl rfl fun v hp st => ?_
    simp only [List.set_cons_zero, List.set_cons_succ] at st
    rw [show o2.map byteV ++ [byteV (o2.getD (o2.length - x.dist.toNat) 0)] = (o2 ++ [o2.getD (o2.length - x.dist.toNat) 0]).map byteV by rw [List.map_append]; rfl] at st
    refine XA rfl rfl rfl (XR_nil (X_blk (X_reg ?_)))
    first | refine XR_a (op_addN (n := 1) rfl rfl (by simp only [inK]; omega)) rfl rfl ?_ | refine XR_a (op_addI rfl rfl (by simp only [inK]; omega)) rfl rfl ?_ | refine XR_a (op_add rfl rfl) rfl rfl ?_
    refine XV rfl rfl rfl (XR_nil ?_)
    exact X_again (k + 1, _, _) (.cons rfl (.cons rfl (.cons rfl (.cons rfl (.cons rfl (.cons rfl (.cons rfl (.cons rfl (.nil _))))))))) ⟨by simp only; omega, hk2, by simp only [List.length_append, List.length_singleton]; omega, st⟩ (by simp only; omega)
   ·rw [show x.len.toNat - k = 0 by omega, copyT] at hk2
    rw [show o2.map byteV = (expL (ts.take (i + 1)) []).map byteV by rw [hk2, hex]] at st
    refine X_exit rfl (X_blk (X_reg ?_))
    first | refine XR_a (op_addN (n := 1) rfl rfl (by simp only [inK]; omega)) rfl rfl ?_ | refine XR_a (op_addI rfl rfl (by simp only [inK]; omega)) rfl rfl ?_ | refine XR_a (op_add rfl rfl) rfl rfl ?_
    refine XV rfl rfl rfl (XR_nil ?_)
    refine X_again (i + 1, _) (.cons rfl (.cons rfl (.cons rfl (.cons rfl (.cons rfl (.nil _)))))) ⟨by simp only; omega, ?_, ?_, st.tail⟩ (by simp only; omega)
    ·simp only; rw [hex, hxl]; exact hd2
    ·simp only; rw [hex, hxl]; omega
 ·refine X_exit rfl (X_seq (X_reg (XV rfl rfl rfl (XA rfl rfl rfl (XA rfl rfl rfl (XR_nil ?_))))))
  refine X_ret (.cons (.tmp rfl) (.cons (.tmp rfl) .nil)) ?_
  rw [List.take_of_length_le (by omega)] at st
  exact ⟨_, rfl, st⟩
theorem expand_ref {n c most : Nat} {A : Option Addr} {ts : List Tok} {h0 : Heap} (hr : Rd h0 A (ts.flatMap tokV)) (hl : ts.length = n) (hn : n ≤ 1099511627776) (hk : TokOk ts) (hm : sizeT ts ≤ most) (hmb : most ≤ 1048576) :
  Ret Tryz.prog 56 [.slice A n c, nV most] h0 fun v h' => ∃ w, v = retVal [w, nV 0] ∧ St h0.size h0 h' [row 5 1 w ((expL ts []).map byteV)] := by
 refine ret_of_X Tryz.func56 rfl rfl fun w0 hw0 => ?_
 simp only [argE, Nat.zero_add, Nat.reduceAdd]
 have st := (St.start h0).nilrow 5 1
 refine X_seq (X_reg (XA rfl rfl rfl (XA rfl rfl rfl (XR_nil (X_seq (X_reg (XA rfl rfl rfl (XR_nil (X_seq ?_)))))))))
 refine X_seq (X_reg (XA rfl rfl rfl (XR_nil (X_block ?_))))
 refine X_loop (fun s => n - s.1) (fun s => [(0, .slice A n c), (1, nV most), (6, s.2), (7, nV s.1)])
  (fun (s : Nat × Value) hp => s.1 ≤ n ∧ distOK (expL (ts.take s.1) []).length (ts.drop s.1) ∧ (expL (ts.take s.1) []).length + sizeT (ts.drop s.1) ≤ most ∧ St h0.size h0 hp [row 5 1 s.2 ((expL (ts.take s.1) []).map byteV)])
  (0, _) (.cons rfl (.cons rfl (.cons rfl (.cons rfl (.nil _))))) ⟨Nat.zero_le _, hk.dist, by simp only [List.take_zero, List.drop_zero]; show 0 + sizeT ts ≤ most; omega, st⟩ ?_
 clear st
 rintro ⟨i, v⟩ hp ⟨hi, hd, hs, st⟩
 simp only at hi hd hs st ⊢
 obtain ⟨A6, n6, c6, rfl, hl6, _⟩ := st.row 0 rfl
 rw [List.length_map, Nat.mul_one] at hl6
 refine X_seq (X_seq (X_reg (XV rfl rfl rfl (XV rfl rfl rfl ?_))))
 refine XR_a (op_len rfl rfl rfl) rfl rfl ?_
 refine XR_a (op_lss rfl rfl) rfl rfl ?_
 refine XR_nil ?_
 refine X_if rfl (fun h => ?_) (fun h => ?_)
 ·have hil : i < ts.length := by omega
  have hex := expL_take hil
  obtain ⟨hd1, hd2⟩ := tok_fit hil hd
  rw [size_drop hil] at hs
  obtain ⟨hx1, hx2⟩ := hk.ok _ (List.getElem_mem hil)
  obtain ⟨g1, og, rfl, hc1⟩ := Rd.flat tokV 3 (hr.ext st.low) (fun _ => rfl) (by omega) (by omega)
  have hcx := hc1 i hil
  obtain ⟨x, hx⟩ : ∃ x, ts[i] = x := ⟨_, rfl⟩
  rw [hx] at hcx hex hd1 hd2 hs hx1 hx2
  have hxs := Tok.size_le hx1
  have hxl := expT_length hx1 (expL (ts.take i) [])
  obtain ⟨out, hout⟩ : ∃ out, expL (ts.take i) [] = out := ⟨_, rfl⟩
  rw [hout] at st hex hd1 hd2 hs hl6 hxl
  have hxr := hx1
  unfold Tok.right at hxr
  have hx0 : 0 ≤ x.len ∧ 0 ≤ x.dist := by split at hxr <;> omega
  refine X_skip (X_seq (X_block (X_seq (X_reg (XV rfl rfl rfl (XV rfl rfl rfl ?_))))))
  refine XR_a (op_index (i := i) rfl rfl rfl (by omega)) rfl rfl ?_
  refine XR_a (op_ldA (vs := tokV x) hcx rfl rfl rfl rfl) rfl rfl ?_
  refine XR_wa (opl_new rfl) rfl rfl rfl ?_
  rintro _ hp ⟨p8, rfl, hnew⟩
  replace st := st.new hnew
  refine XR_wn (opl_store_whole (us := tokV x) st 0 rfl rfl rfl rfl rfl (tokV_one x) rfl) rfl rfl fun _ hp st => ?_
  simp only [List.set_cons_zero] at st
  refine XR_nil (X_seq (X_seq (X_reg ?_)))
  refine XR_a (op_ldA (vs := tokV x) (st.cells 0 rfl) rfl rfl rfl rfl) rfl rfl ?_
  refine XR_wa (opl_call (tright_ref x _) rfl (by kernel_rfl)) rfl rfl rfl ?_
  rintro _ hp2 ⟨rfl, hx2'⟩
  replace st := st.ext hx2'
  rw [decide_eq_true hx1]
  refine XR_a (op_not rfl) rfl rfl ?_
  refine XR_as (.bool false) rfl ?_
  refine XV rfl rfl rfl ?_
  first | refine XR_a (op_field0 rfl rfl) rfl rfl ?_ | refine XR_a (op_fieldn rfl rfl) rfl rfl ?_
  refine XR_a (op_ld (st.cell 0 (i := 2) rfl rfl) rfl rfl rfl) rfl rfl ?_
  refine XV rfl rfl rfl ?_
  refine XR_a (op_len rfl rfl rfl) rfl rfl ?_
  refine XR_a (op_gtr rfl rfl) rfl rfl ?_
  refine XR_as (.bool false) (congrArg Value.bool (decide_eq_false (by omega))) ?_
  refine XR_a (op_pick_f rfl rfl) rfl rfl (XR_nil (X_else rfl (X_skip (X_seq (X_reg ?_)))))
  first | refine XR_a (op_field0 rfl rfl) rfl rfl ?_ | refine XR_a (op_fieldn rfl rfl) rfl rfl ?_
  refine XR_a (op_ld (st.cell 0 (i := 1) rfl rfl) rfl rfl rfl) rfl rfl ?_
  refine XA rfl rfl rfl (XR_nil (X_seq (X_seq (X_reg (XV rfl rfl rfl ?_)))))
  refine XR_a (op_eql rfl rfl) rfl rfl ?_
  refine XR_nil ?_
  refine X_if rfl (fun h => ?_) (fun h => ?_)
  ·refine X_reg (XA rfl rfl rfl (XR_nil (X_seq (X_seq (X_reg (XV rfl rfl rfl ?_))))))
   refine XR_a (op_len rfl rfl rfl) rfl rfl ?_
   refine XV rfl rfl rfl ?_
   refine XR_a (op_gtr rfl rfl) rfl rfl ?_
   refine XR_as (.bool false) (congrArg Value.bool (decide_eq_false (by omega))) ?_
   refine XV rfl rfl rfl (XV rfl rfl rfl (XV rfl rfl rfl (XV rfl rfl rfl ?_)))
   refine XR_a (op_len rfl rfl rfl) rfl rfl ?_
   refine XR_a (op_subN (m := most) (n := n6) rfl rfl (by omega) (by simp only [inK]; omega)) rfl rfl ?_
   refine XR_a (op_gtr rfl rfl) rfl rfl ?_
   refine XR_as (.bool false) (congrArg Value.bool (decide_eq_false (by omega))) ?_
   refine XR_a (op_pick_f rfl rfl) rfl rfl (XR_nil (X_else rfl (X_skip (X_seq (X_seq (X_reg ?_))))))
   first | refine XR_a (op_field0 rfl rfl) rfl rfl ?_ | refine XR_a (op_fieldn rfl rfl) rfl rfl ?_
   refine XR_a (op_ld (st.cell 0 (i := 1) rfl rfl) rfl rfl rfl) rfl rfl ?_
   refine XR_a (op_eql rfl rfl) rfl rfl ?_
   refine XR_nil ?_
   refine X_if rfl (fun h => ?_) (fun h => ?_)
   ·have hE : expT x out = copyT x.len.toNat x.dist.toNat (out ++ [UInt8.ofNat x.byte.toNat]) := by
     unfold expT; rw [if_pos h, h]; rfl
    refine X_reg (XV rfl rfl rfl ?_)
    first | refine XR_a (op_field0 rfl rfl) rfl rfl ?_ | refine XR_a (op_fieldn rfl rfl) rfl rfl ?_
    refine XR_a (op_ld (st.cell 0 (i := 0) rfl rfl) rfl rfl rfl) rfl rfl ?_
    refine XR_as (byteV (UInt8.ofNat x.byte.toNat)) (congrArg (Value.int .u8) (by rw [UInt8.toNat_ofNat']; omega)) ?_
    refine XR_wa (opl_var1 (v := byteV (UInt8.ofNat x.byte.toNat)) rfl rfl rfl) rfl rfl rfl ?_
    rintro _ hp ⟨Aq, rfl, hxq, hrq⟩
    replace st := st.ext hxq
    refine XR_wa (opl_append st 1 rfl (hrq) (rfl) (one_bytes [_]) (by simp; omega) rfl rfl rfl rfl rfl rfl rfl) rfl rfl rfl fun v hp st => ?_
    simp only [List.set_cons_zero, List.set_cons_succ] at st
    rw [show out.map byteV ++ [byteV (UInt8.ofNat x.byte.toNat)] = (out ++ [UInt8.ofNat x.byte.toNat]).map byteV by rw [List.map_append]; rfl] at st
    obtain ⟨o1, ho1⟩ : ∃ o1, out ++ [UInt8.ofNat x.byte.toNat] = o1 := ⟨_, rfl⟩
    rw [ho1] at hE st
    have ho1l : 0 < x.len.toNat → (x.dist.toNat ≤ o1.length ∧ 1 ≤ x.dist.toNat) := fun hh => absurd hh (by omega)
    have hol : o1.length ≤ 1048576 := by rw [← ho1, List.length_append, List.length_singleton]; omega
    refine XA rfl rfl rfl (XR_nil (X_seq (X_reg (XA rfl rfl rfl (XR_nil (X_block ?_))))))
    refine X_loop (fun s => x.len.toNat - s.1) (fun s => [(0, .slice (some ⟨g1, og, none⟩) n c), (1, nV most), (6, s.2.2), (7, nV i), (8, .pointer (some ⟨p8, 0, none⟩)), (10, nV s.1)])
     (fun (s : Nat × List UInt8 × Value) hp => s.1 ≤ x.len.toNat ∧ copyT (x.len.toNat - s.1) x.dist.toNat s.2.1 = expT x out ∧ s.2.1.length = o1.length + s.1 ∧ St h0.size h0 hp [pt p8 65 (tokV x), row 5 1 s.2.2 (s.2.1.map byteV)])
     (0, o1, _) (.cons rfl (.cons rfl (.cons rfl (.cons rfl (.cons rfl (.cons rfl (.nil _))))))) ⟨Nat.zero_le _, hE.symm, rfl, st⟩ ?_
    clear st
    rintro ⟨k, o2, v2⟩ hp ⟨hk1, hk2, hk3, st⟩
    simp only at hk1 hk2 hk3 st ⊢
    obtain ⟨A7, n7, c7, rfl, hl7, _, _, hr7⟩ := st.row 1 rfl
    rw [List.length_map, Nat.mul_one] at hl7
    subst hl7
    refine X_seq (X_seq (X_reg (XV rfl rfl rfl ?_)))
    first | refine XR_a (op_field0 rfl rfl) rfl rfl ?_ | refine XR_a (op_fieldn rfl rfl) rfl rfl ?_
    refine XR_a (op_ld (st.cell 0 (i := 1) rfl rfl) rfl rfl rfl) rfl rfl ?_
    refine XR_a (op_lss rfl rfl) rfl rfl ?_
    refine XR_nil ?_
    refine X_if rfl (fun h => ?_) (fun h => ?_)
    ·have hkL : k < x.len.toNat := by omega
     obtain ⟨hD1, hD2⟩ := ho1l (by omega)
     rw [copy_step hkL] at hk2
     obtain ⟨g7, o7, rfl, hc7⟩ := hr7.at_ (by rw [List.length_map]; omega)
     have hci := hc7 (o2.length - x.dist.toNat) (byteV (o2.getD (o2.length - x.dist.toNat) 0)) (by rw [List.getElem?_map, List.getElem?_eq_getElem (by omega), getD_at (by omega)]; rfl)
     refine X_skip (X_seq (X_block (X_seq (X_reg (XV rfl rfl rfl (XV rfl rfl rfl ?_))))))
     refine XR_a (op_len rfl rfl rfl) rfl rfl ?_
     first | refine XR_a (op_field0 rfl rfl) rfl rfl ?_ | refine XR_a (op_fieldn rfl rfl) rfl rfl ?_
     refine XR_a (op_ld (st.cell 0 (i := 2) rfl rfl) rfl rfl rfl) rfl rfl ?_
     refine XR_a (op_subI rfl rfl (by simp only [inK]; omega)) rfl rfl ?_
     refine XR_as (nV (o2.length - x.dist.toNat)) (congrArg (Value.int .i64) (by omega)) ?_
     refine XR_a (op_index1 (i := o2.length - x.dist.toNat) rfl rfl rfl (by omega)) rfl rfl ?_
     refine XR_a (op_ld (hci) rfl rfl rfl) rfl rfl ?_
     refine XA rfl rfl rfl (XR_nil (X_reg (XV rfl rfl rfl (XV rfl rfl rfl ?_))))
     refine XR_wa (opl_var1 (v := byteV (o2.getD (o2.length - x.dist.toNat) 0)) rfl rfl rfl) rfl rfl rfl ?_
     rintro _ hp ⟨Aq, rfl, hxq, hrq⟩
     replace st := st.ext hxq
     refine XR_wa (opl_append st 1 rfl (hrq) (rfl) (one_bytes [_]) (by simp; omega) rfl rfl rfl rfl rfl rfl rfl) rfl rfl rfl fun v hp st => ?_
     simp only [List.set_cons_zero, List.set_cons_succ] at st
     rw [show o2.map byteV ++ [byteV (o2.getD (o2.length - x.dist.toNat) 0)] = (o2 ++ [o2.getD (o2.length - x.dist.toNat) 0]).map byteV by rw [List.map_append]; rfl] at st
     refine XA rfl rfl rfl (XR_nil (X_blk (X_reg (XV rfl rfl rfl ?_))))
     first | refine XR_a (op_addN (n := 1) rfl rfl (by simp only [inK]; omega)) rfl rfl ?_ | refine XR_a (op_addI rfl rfl (by simp only [inK]; omega)) rfl rfl ?_ | refine XR_a (op_add rfl rfl) rfl rfl ?_
     refine XA rfl rfl rfl (XR_nil ?_)
     exact X_again (k + 1, _, _) (.cons rfl (.cons rfl (.cons rfl (.cons rfl (.cons rfl (.cons rfl (.nil _))))))) ⟨by simp only; omega, hk2, by simp only [List.length_append, List.length_singleton]; omega, st⟩ (by simp only; omega)
    ·rw [show x.len.toNat - k = 0 by omega, copyT] at hk2
     rw [show o2.map byteV = (expL (ts.take (i + 1)) []).map byteV by rw [hk2, hex]] at st
     refine X_exit rfl (X_blk (X_reg (XV rfl rfl rfl ?_)))
     first | refine XR_a (op_addN (n := 1) rfl rfl (by simp only [inK]; omega)) rfl rfl ?_ | refine XR_a (op_addI rfl rfl (by simp only [inK]; omega)) rfl rfl ?_ | refine XR_a (op_add rfl rfl) rfl rfl ?_
     refine XA rfl rfl rfl (XR_nil ?_)
     refine X_again (i + 1, _) (.cons rfl (.cons rfl (.cons rfl (.cons rfl (.nil _))))) ⟨by simp only; omega, ?_, ?_, st.tail⟩ (by simp only; omega)
     ·simp only; rw [hex, hxl]; exact hd2
     ·simp only; rw [hex, hxl]; omega
   ·obtain ⟨o1, ho1⟩ : ∃ o1, out = o1 := ⟨_, rfl⟩
    have hE : expT x out = copyT x.len.toNat x.dist.toNat o1 := by rw [← ho1]; unfold expT; rw [if_neg h]
    have ho1l : 0 < x.len.toNat → (x.dist.toNat ≤ o1.length ∧ 1 ≤ x.dist.toNat) := fun _ => by
     rw [if_neg h] at hxr
     rw [← ho1]; omega
    rw [ho1] at st hl6
    have hol : o1.length ≤ 1048576 := by rw [← ho1]; omega
    refine X_skip (X_seq (X_reg (XA rfl rfl rfl (XR_nil (X_block ?_)))))
    refine X_loop (fun s => x.len.toNat - s.1) (fun s => [(0, .slice (some ⟨g1, og, none⟩) n c), (1, nV most), (6, s.2.2), (7, nV i), (8, .pointer (some ⟨p8, 0, none⟩)), (10, nV s.1)])
     (fun (s : Nat × List UInt8 × Value) hp => s.1 ≤ x.len.toNat ∧ copyT (x.len.toNat - s.1) x.dist.toNat s.2.1 = expT x out ∧ s.2.1.length = o1.length + s.1 ∧ St h0.size h0 hp [pt p8 65 (tokV x), row 5 1 s.2.2 (s.2.1.map byteV)])
     (0, o1, _) (.cons rfl (.cons rfl (.cons rfl (.cons rfl (.cons rfl (.cons rfl (.nil _))))))) ⟨Nat.zero_le _, hE.symm, rfl, st⟩ ?_
    clear st
    rintro ⟨k, o2, v2⟩ hp ⟨hk1, hk2, hk3, st⟩
    simp only at hk1 hk2 hk3 st ⊢
    obtain ⟨A7, n7, c7, rfl, hl7, _, _, hr7⟩ := st.row 1 rfl
    rw [List.length_map, Nat.mul_one] at hl7
    subst hl7
    refine X_seq (X_seq (X_reg (XV rfl rfl rfl ?_)))
    first | refine XR_a (op_field0 rfl rfl) rfl rfl ?_ | refine XR_a (op_fieldn rfl rfl) rfl rfl ?_
    refine XR_a (op_ld (st.cell 0 (i := 1) rfl rfl) rfl rfl rfl) rfl rfl ?_
    refine XR_a (op_lss rfl rfl) rfl rfl ?_
    refine XR_nil ?_
    refine X_if rfl (fun h => ?_) (fun h => ?_)
    ·have hkL : k < x.len.toNat := by omega
     obtain ⟨hD1, hD2⟩ := ho1l (by omega)
     rw [copy_step hkL] at hk2
     obtain ⟨g7, o7, rfl, hc7⟩ := hr7.at_ (by rw [List.length_map]; omega)
     have hci := hc7 (o2.length - x.dist.toNat) (byteV (o2.getD (o2.length - x.dist.toNat) 0)) (by rw [List.getElem?_map, List.getElem?_eq_getElem (by omega), getD_at (by omega)]; rfl)
     refine X_skip (X_seq (X_block (X_seq (X_reg (XV rfl rfl rfl (XV rfl rfl rfl ?_))))))
     refine XR_a (op_len rfl rfl rfl) rfl rfl ?_
     first | refine XR_a (op_field0 rfl rfl) rfl rfl ?_ | refine XR_a (op_fieldn rfl rfl) rfl rfl ?_
     refine XR_a (op_ld (st.cell 0 (i := 2) rfl rfl) rfl rfl rfl) rfl rfl ?_
     refine XR_a (op_subI rfl rfl (by simp only [inK]; omega)) rfl rfl ?_
     refine XR_as (nV (o2.length - x.dist.toNat)) (congrArg (Value.int .i64) (by omega)) ?_
     refine XR_a (op_index1 (i := o2.length - x.dist.toNat) rfl rfl rfl (by omega)) rfl rfl ?_
     refine XR_a (op_ld (hci) rfl rfl rfl) rfl rfl ?_
     refine XA rfl rfl rfl (XR_nil (X_reg (XV rfl rfl rfl (XV rfl rfl rfl ?_))))
     refine XR_wa (opl_var1 (v := byteV (o2.getD (o2.length - x.dist.toNat) 0)) rfl rfl rfl) rfl rfl rfl ?_
     rintro _ hp ⟨Aq, rfl, hxq, hrq⟩
     replace st := st.ext hxq
     refine XR_wa (opl_append st 1 rfl (hrq) (rfl) (one_bytes [_]) (by simp; omega) rfl rfl rfl rfl rfl rfl rfl) rfl rfl rfl fun v hp st => ?_
     simp only [List.set_cons_zero, List.set_cons_succ] at st
     rw [show o2.map byteV ++ [byteV (o2.getD (o2.length - x.dist.toNat) 0)] = (o2 ++ [o2.getD (o2.length - x.dist.toNat) 0]).map byteV by rw [List.map_append]; rfl] at st
     refine XA rfl rfl rfl (XR_nil (X_blk (X_reg (XV rfl rfl rfl ?_))))
     first | refine XR_a (op_addN (n := 1) rfl rfl (by simp only [inK]; omega)) rfl rfl ?_ | refine XR_a (op_addI rfl rfl (by simp only [inK]; omega)) rfl rfl ?_ | refine XR_a (op_add rfl rfl) rfl rfl ?_
     refine XA rfl rfl rfl (XR_nil ?_)
     exact X_again (k + 1, _, _) (.cons rfl (.cons rfl (.cons rfl (.cons rfl (.cons rfl (.cons rfl (.nil _))))))) ⟨by simp only; omega, hk2, by simp only [List.length_append, List.length_singleton]; omega, st⟩ (by simp only; omega)
    ·rw [show x.len.toNat - k = 0 by omega, copyT] at hk2
     rw [show o2.map byteV = (expL (ts.take (i + 1)) []).map byteV by rw [hk2, hex]] at st
     refine X_exit rfl (X_blk (X_reg (XV rfl rfl rfl ?_)))
     first | refine XR_a (op_addN (n := 1) rfl rfl (by simp only [inK]; omega)) rfl rfl ?_ | refine XR_a (op_addI rfl rfl (by simp only [inK]; omega)) rfl rfl ?_ | refine XR_a (op_add rfl rfl) rfl rfl ?_
     refine XA rfl rfl rfl (XR_nil ?_)
     refine X_again (i + 1, _) (.cons rfl (.cons rfl (.cons rfl (.cons rfl (.nil _))))) ⟨by simp only; omega, ?_, ?_, st.tail⟩ (by simp only; omega)
     ·simp only; rw [hex, hxl]; exact hd2
     ·simp only; rw [hex, hxl]; omega
  ·refine X_skip (X_seq (X_seq (X_reg (XV rfl rfl rfl ?_))))
   refine XR_a (op_len rfl rfl rfl) rfl rfl ?_
   refine XV rfl rfl rfl ?_
   refine XR_a (op_gtr rfl rfl) rfl rfl ?_
   refine XR_as (.bool false) (congrArg Value.bool (decide_eq_false (by omega))) ?_
   refine XV rfl rfl rfl (XV rfl rfl rfl (XV rfl rfl rfl (XV rfl rfl rfl ?_)))
   refine XR_a (op_len rfl rfl rfl) rfl rfl ?_
   refine XR_a (op_subN (m := most) (n := n6) rfl rfl (by omega) (by simp only [inK]; omega)) rfl rfl ?_
   refine XR_a (op_gtr rfl rfl) rfl rfl ?_
   refine XR_as (.bool false) (congrArg Value.bool (decide_eq_false (by omega))) ?_
   refine XR_a (op_pick_f rfl rfl) rfl rfl (XR_nil (X_else rfl (X_skip (X_seq (X_seq (X_reg ?_))))))
   first | refine XR_a (op_field0 rfl rfl) rfl rfl ?_ | refine XR_a (op_fieldn rfl rfl) rfl rfl ?_
   refine XR_a (op_ld (st.cell 0 (i := 1) rfl rfl) rfl rfl rfl) rfl rfl ?_
   refine XR_a (op_eql rfl rfl) rfl rfl ?_
   refine XR_nil ?_
   refine X_if rfl (fun h => ?_) (fun h => ?_)
   ·have hE : expT x out = copyT x.len.toNat x.dist.toNat (out ++ [UInt8.ofNat x.byte.toNat]) := by
     unfold expT; rw [if_pos h, h]; rfl
    refine X_reg (XV rfl rfl rfl ?_)
    first | refine XR_a (op_field0 rfl rfl) rfl rfl ?_ | refine XR_a (op_fieldn rfl rfl) rfl rfl ?_
    refine XR_a (op_ld (st.cell 0 (i := 0) rfl rfl) rfl rfl rfl) rfl rfl ?_
    refine XR_as (byteV (UInt8.ofNat x.byte.toNat)) (congrArg (Value.int .u8) (by rw [UInt8.toNat_ofNat']; omega)) ?_
    refine XR_wa (opl_var1 (v := byteV (UInt8.ofNat x.byte.toNat)) rfl rfl rfl) rfl rfl rfl ?_
    rintro _ hp ⟨Aq, rfl, hxq, hrq⟩
    replace st := st.ext hxq
    refine XR_wa (opl_append st 1 rfl (hrq) (rfl) (one_bytes [_]) (by simp; omega) rfl rfl rfl rfl rfl rfl rfl) rfl rfl rfl fun v hp st => ?_
    simp only [List.set_cons_zero, List.set_cons_succ] at st
    rw [show out.map byteV ++ [byteV (UInt8.ofNat x.byte.toNat)] = (out ++ [UInt8.ofNat x.byte.toNat]).map byteV by rw [List.map_append]; rfl] at st
    obtain ⟨o1, ho1⟩ : ∃ o1, out ++ [UInt8.ofNat x.byte.toNat] = o1 := ⟨_, rfl⟩
    rw [ho1] at hE st
    have ho1l : 0 < x.len.toNat → (x.dist.toNat ≤ o1.length ∧ 1 ≤ x.dist.toNat) := fun hh => absurd hh (by omega)
    have hol : o1.length ≤ 1048576 := by rw [← ho1, List.length_append, List.length_singleton]; omega
    refine XA rfl rfl rfl (XR_nil (X_seq (X_reg (XA rfl rfl rfl (XR_nil (X_block ?_))))))
    refine X_loop (fun s => x.len.toNat - s.1) (fun s => [(0, .slice (some ⟨g1, og, none⟩) n c), (1, nV most), (6, s.2.2), (7, nV i), (8, .pointer (some ⟨p8, 0, none⟩)), (10, nV s.1)])
     (fun (s : Nat × List UInt8 × Value) hp => s.1 ≤ x.len.toNat ∧ copyT (x.len.toNat - s.1) x.dist.toNat s.2.1 = expT x out ∧ s.2.1.length = o1.length + s.1 ∧ St h0.size h0 hp [pt p8 65 (tokV x), row 5 1 s.2.2 (s.2.1.map byteV)])
     (0, o1, _) (.cons rfl (.cons rfl (.cons rfl (.cons rfl (.cons rfl (.cons rfl (.nil _))))))) ⟨Nat.zero_le _, hE.symm, rfl, st⟩ ?_
    clear st
    rintro ⟨k, o2, v2⟩ hp ⟨hk1, hk2, hk3, st⟩
    simp only at hk1 hk2 hk3 st ⊢
    obtain ⟨A7, n7, c7, rfl, hl7, _, _, hr7⟩ := st.row 1 rfl
    rw [List.length_map, Nat.mul_one] at hl7
    subst hl7
    refine X_seq (X_seq (X_reg (XV rfl rfl rfl ?_)))
    first | refine XR_a (op_field0 rfl rfl) rfl rfl ?_ | refine XR_a (op_fieldn rfl rfl) rfl rfl ?_
    refine XR_a (op_ld (st.cell 0 (i := 1) rfl rfl) rfl rfl rfl) rfl rfl ?_
    refine XR_a (op_lss rfl rfl) rfl rfl ?_
    refine XR_nil ?_
    refine X_if rfl (fun h => ?_) (fun h => ?_)
    ·have hkL : k < x.len.toNat := by omega
     obtain ⟨hD1, hD2⟩ := ho1l (by omega)
     rw [copy_step hkL] at hk2
     obtain ⟨g7, o7, rfl, hc7⟩ := hr7.at_ (by rw [List.length_map]; omega)
     have hci := hc7 (o2.length - x.dist.toNat) (byteV (o2.getD (o2.length - x.dist.toNat) 0)) (by rw [List.getElem?_map, List.getElem?_eq_getElem (by omega), getD_at (by omega)]; rfl)
     refine X_skip (X_seq (X_block (X_seq (X_reg (XV rfl rfl rfl (XV rfl rfl rfl ?_))))))
     refine XR_a (op_len rfl rfl rfl) rfl rfl ?_
     first | refine XR_a (op_field0 rfl rfl) rfl rfl ?_ | refine XR_a (op_fieldn rfl rfl) rfl rfl ?_
     refine XR_a (op_ld (st.cell 0 (i := 2) rfl rfl) rfl rfl rfl) rfl rfl ?_
     refine XR_a (op_subI rfl rfl (by simp only [inK]; omega)) rfl rfl ?_
     refine XR_as (nV (o2.length - x.dist.toNat)) (congrArg (Value.int .i64) (by omega)) ?_
     refine XR_a (op_index1 (i := o2.length - x.dist.toNat) rfl rfl rfl (by omega)) rfl rfl ?_
     refine XR_a (op_ld (hci) rfl rfl rfl) rfl rfl ?_
     refine XA rfl rfl rfl (XR_nil (X_reg (XV rfl rfl rfl (XV rfl rfl rfl ?_))))
     refine XR_wa (opl_var1 (v := byteV (o2.getD (o2.length - x.dist.toNat) 0)) rfl rfl rfl) rfl rfl rfl ?_
     rintro _ hp ⟨Aq, rfl, hxq, hrq⟩
     replace st := st.ext hxq
     refine XR_wa (opl_append st 1 rfl (hrq) (rfl) (one_bytes [_]) (by simp; omega) rfl rfl rfl rfl rfl rfl rfl) rfl rfl rfl fun v hp st => ?_
     simp only [List.set_cons_zero, List.set_cons_succ] at st
     rw [show o2.map byteV ++ [byteV (o2.getD (o2.length - x.dist.toNat) 0)] = (o2 ++ [o2.getD (o2.length - x.dist.toNat) 0]).map byteV by rw [List.map_append]; rfl] at st
     refine XA rfl rfl rfl (XR_nil (X_blk (X_reg (XV rfl rfl rfl ?_))))
     first | refine XR_a (op_addN (n := 1) rfl rfl (by simp only [inK]; omega)) rfl rfl ?_ | refine XR_a (op_addI rfl rfl (by simp only [inK]; omega)) rfl rfl ?_ | refine XR_a (op_add rfl rfl) rfl rfl ?_
     refine XA rfl rfl rfl (XR_nil ?_)
     exact X_again (k + 1, _, _) (.cons rfl (.cons rfl (.cons rfl (.cons rfl (.cons rfl (.cons rfl (.nil _))))))) ⟨by simp only; omega, hk2, by simp only [List.length_append, List.length_singleton]; omega, st⟩ (by simp only; omega)
    ·rw [show x.len.toNat - k = 0 by omega, copyT] at hk2
     rw [show o2.map byteV = (expL (ts.take (i + 1)) []).map byteV by rw [hk2, hex]] at st
     refine X_exit rfl (X_blk (X_reg (XV rfl rfl rfl ?_)))
     first | refine XR_a (op_addN (n := 1) rfl rfl (by simp only [inK]; omega)) rfl rfl ?_ | refine XR_a (op_addI rfl rfl (by simp only [inK]; omega)) rfl rfl ?_ | refine XR_a (op_add rfl rfl) rfl rfl ?_
     refine XA rfl rfl rfl (XR_nil ?_)
     refine X_again (i + 1, _) (.cons rfl (.cons rfl (.cons rfl (.cons rfl (.nil _))))) ⟨by simp only; omega, ?_, ?_, st.tail⟩ (by simp only; omega)
     ·simp only; rw [hex, hxl]; exact hd2
     ·simp only; rw [hex, hxl]; omega
   ·obtain ⟨o1, ho1⟩ : ∃ o1, out = o1 := ⟨_, rfl⟩
    have hE : expT x out = copyT x.len.toNat x.dist.toNat o1 := by rw [← ho1]; unfold expT; rw [if_neg h]
    have ho1l : 0 < x.len.toNat → (x.dist.toNat ≤ o1.length ∧ 1 ≤ x.dist.toNat) := fun _ => by
     rw [if_neg h] at hxr
     rw [← ho1]; omega
    rw [ho1] at st hl6
    have hol : o1.length ≤ 1048576 := by rw [← ho1]; omega
    refine X_skip (X_seq (X_reg (XA rfl rfl rfl (XR_nil (X_block ?_)))))
    refine X_loop (fun s => x.len.toNat - s.1) (fun s => [(0, .slice (some ⟨g1, og, none⟩) n c), (1, nV most), (6, s.2.2), (7, nV i), (8, .pointer (some ⟨p8, 0, none⟩)), (10, nV s.1)])
     (fun (s : Nat × List UInt8 × Value) hp => s.1 ≤ x.len.toNat ∧ copyT (x.len.toNat - s.1) x.dist.toNat s.2.1 = expT x out ∧ s.2.1.length = o1.length + s.1 ∧ St h0.size h0 hp [pt p8 65 (tokV x), row 5 1 s.2.2 (s.2.1.map byteV)])
     (0, o1, _) (.cons rfl (.cons rfl (.cons rfl (.cons rfl (.cons rfl (.cons rfl (.nil _))))))) ⟨Nat.zero_le _, hE.symm, rfl, st⟩ ?_
    clear st
    rintro ⟨k, o2, v2⟩ hp ⟨hk1, hk2, hk3, st⟩
    simp only at hk1 hk2 hk3 st ⊢
    obtain ⟨A7, n7, c7, rfl, hl7, _, _, hr7⟩ := st.row 1 rfl
    rw [List.length_map, Nat.mul_one] at hl7
    subst hl7
    refine X_seq (X_seq (X_reg (XV rfl rfl rfl ?_)))
    first | refine XR_a (op_field0 rfl rfl) rfl rfl ?_ | refine XR_a (op_fieldn rfl rfl) rfl rfl ?_
    refine XR_a (op_ld (st.cell 0 (i := 1) rfl rfl) rfl rfl rfl) rfl rfl ?_
    refine XR_a (op_lss rfl rfl) rfl rfl ?_
    refine XR_nil ?_
    refine X_if rfl (fun h => ?_) (fun h => ?_)
    ·have hkL : k < x.len.toNat := by omega
     obtain ⟨hD1, hD2⟩ := ho1l (by omega)
     rw [copy_step hkL] at hk2
     obtain ⟨g7, o7, rfl, hc7⟩ := hr7.at_ (by rw [List.length_map]; omega)
     have hci := hc7 (o2.length - x.dist.toNat) (byteV (o2.getD (o2.length - x.dist.toNat) 0)) (by rw [List.getElem?_map, List.getElem?_eq_getElem (by omega), getD_at (by omega)]; rfl)
     refine X_skip (X_seq (X_block (X_seq (X_reg (XV rfl rfl rfl (XV rfl rfl rfl ?_))))))
     refine XR_a (op_len rfl rfl rfl) rfl rfl ?_
     first | refine XR_a (op_field0 rfl rfl) rfl rfl ?_ | refine XR_a (op_fieldn rfl rfl) rfl rfl ?_
     refine XR_a (op_ld (st.cell 0 (i := 2) rfl rfl) rfl rfl rfl) rfl rfl ?_
     refine XR_a (op_subI rfl rfl (by simp only [inK]; omega)) rfl rfl ?_
     refine XR_as (nV (o2.length - x.dist.toNat)) (congrArg (Value.int .i64) (by omega)) ?_
     refine XR_a (op_index1 (i := o2.length - x.dist.toNat) rfl rfl rfl (by omega)) rfl rfl ?_
     refine XR_a (op_ld (hci) rfl rfl rfl) rfl rfl ?_
     refine XA rfl rfl rfl (XR_nil (X_reg (XV rfl rfl rfl (XV rfl rfl rfl ?_))))
     refine XR_wa (opl_var1 (v := byteV (o2.getD (o2.length - x.dist.toNat) 0)) rfl rfl rfl) rfl rfl rfl ?_
     rintro _ hp ⟨Aq, rfl, hxq, hrq⟩
     replace st := st.ext hxq
     refine XR_wa (opl_append st 1 rfl (hrq) (rfl) (one_bytes [_]) (by simp; omega) rfl rfl rfl rfl rfl rfl rfl) rfl rfl rfl fun v hp st => ?_
     simp only [List.set_cons_zero, List.set_cons_succ] at st
     rw [show o2.map byteV ++ [byteV (o2.getD (o2.length - x.dist.toNat) 0)] = (o2 ++ [o2.getD (o2.length - x.dist.toNat) 0]).map byteV by rw [List.map_append]; rfl] at st
     refine XA rfl rfl rfl (XR_nil (X_blk (X_reg (XV rfl rfl rfl ?_))))
     first | refine XR_a (op_addN (n := 1) rfl rfl (by simp only [inK]; omega)) rfl rfl ?_ | refine XR_a (op_addI rfl rfl (by simp only [inK]; omega)) rfl rfl ?_ | refine XR_a (op_add rfl rfl) rfl rfl ?_
     refine XA rfl rfl rfl (XR_nil ?_)
     exact X_again (k + 1, _, _) (.cons rfl (.cons rfl (.cons rfl (.cons rfl (.cons rfl (.cons rfl (.nil _))))))) ⟨by simp only; omega, hk2, by simp only [List.length_append, List.length_singleton]; omega, st⟩ (by simp only; omega)
    ·rw [show x.len.toNat - k = 0 by omega, copyT] at hk2
     rw [show o2.map byteV = (expL (ts.take (i + 1)) []).map byteV by rw [hk2, hex]] at st
     refine X_exit rfl (X_blk (X_reg (XV rfl rfl rfl ?_)))
     first | refine XR_a (op_addN (n := 1) rfl rfl (by simp only [inK]; omega)) rfl rfl ?_ | refine XR_a (op_addI rfl rfl (by simp only [inK]; omega)) rfl rfl ?_ | refine XR_a (op_add rfl rfl) rfl rfl ?_
     refine XA rfl rfl rfl (XR_nil ?_)
     refine X_again (i + 1, _) (.cons rfl (.cons rfl (.cons rfl (.cons rfl (.nil _))))) ⟨by simp only; omega, ?_, ?_, st.tail⟩ (by simp only; omega)
     ·simp only; rw [hex, hxl]; exact hd2
     ·simp only; rw [hex, hxl]; omega
 ·refine X_exit rfl (X_seq (X_reg (XV rfl rfl rfl (XA rfl rfl rfl (XA rfl rfl rfl (XR_nil ?_))))))
  refine X_ret (.cons (.tmp rfl) (.cons (.tmp rfl) .nil)) ?_
  rw [List.take_of_length_le (by omega)] at st
  exact ⟨_, rfl, st⟩
end Go.Bn
end

section
set_option linter.unusedVariables false
set_option linter.unusedSimpArgs false
namespace Go.Bn
open Go
structure MapOk (es : Array MapEntry) (f : Int → Option Value) : Prop where
  keys : ∀ e ∈ es.toList, ∃ k, e.key = .int .i64 k
  nodup : (es.toList.map (·.key)).Nodup
  all : ∀ k v, f k = some v ↔ ∃ e ∈ es.toList, e.key = .int .i64 k ∧ e.val = v
theorem MapOk.empty : MapOk #[] (fun _ => none) := ⟨by simp, by simp, by simp⟩
theorem MapOk.isKey {es : Array MapEntry} {f : Int → Option Value} (h : MapOk es f) : ∀ x ∈ es.toList, MapKept.IsKey (.int .i64) x.key := fun x hx => by
 obtain ⟨k, hk⟩ := h.keys x hx
 rw [hk]; simp [MapKept.IsKey]
def putF (f : Int → Option Value) (k : Int) (v : Value) : Int → Option Value := fun j => if j = k then some v else f j
theorem MapOk.push {es : Array MapEntry} {f : Int → Option Value} (h : MapOk es f) {k : Int} (hk : ∀ x ∈ es.toList, x.key ≠ .int .i64 k) (v : Value) (born : Nat) : MapOk (es.push { key := .int .i64 k, val := v, born }) (putF f k v) := by
 refine ⟨fun e he => ?_, ?_, fun j u => ?_⟩
 ·simp only [Array.toList_push, List.mem_append, List.mem_singleton] at he
  rcases he with he | rfl
  ·exact h.keys e he
  ·exact ⟨k, rfl⟩
 ·simp only [Array.toList_push, List.map_append, List.map_cons, List.map_nil]
  refine List.nodup_append.2 ⟨h.nodup, by simp, ?_⟩
  intro a ha b hb
  simp only [List.mem_singleton] at hb
  subst hb
  obtain ⟨x, hx, rfl⟩ := List.mem_map.1 ha
  exact hk x hx
 ·unfold putF
  simp only [Array.toList_push, List.mem_append, List.mem_singleton]
  by_cases hj : j = k
  ·subst hj
   rw [if_pos rfl]
   constructor
   ·intro e; cases e; exact ⟨_, .inr rfl, rfl, rfl⟩
   ·rintro ⟨e, he | rfl, h1, h2⟩
    ·exact absurd h1 (hk e he)
    ·rw [← h2]
  ·rw [if_neg hj, h.all]
   constructor
   ·rintro ⟨e, he, h1, h2⟩; exact ⟨e, .inl he, h1, h2⟩
   ·rintro ⟨e, he | rfl, h1, h2⟩
    ·exact ⟨e, he, h1, h2⟩
    ·simp only [Value.int.injEq, true_and] at h1; exact absurd h1.symm hj
theorem MapOk.set {es : Array MapEntry} {f : Int → Option Value} (h : MapOk es f) {k : Int} {j : Nat} {e : MapEntry} (he : es.toList[j]? = some e) (hk : e.key = .int .i64 k) (v : Value) : MapOk (es.modify j fun e => { e with key := .int .i64 k, val := v }) (putF f k v) := by
 have hkeys := MapKept.modify_keys (es := es) j (fun e => { e with key := .int .i64 k, val := v }) (fun e' he' => by
  rw [Array.getElem?_toList] at he
  rw [he] at he'; cases he'; exact hk.symm)
 have hjl : j < es.toList.length := (List.getElem?_eq_some_iff.1 he).1
 have hge : es.toList[j] = e := (List.getElem?_eq_some_iff.1 he).2
 have hm : (es.modify j fun e => { e with key := .int .i64 k, val := v }).toList = es.toList.take j ++ { e with key := .int .i64 k, val := v } :: es.toList.drop (j + 1) := by
  rw [Array.toList_modify, List.modify_eq_take_cons_drop hjl, hge]
 have hL : es.toList = es.toList.take j ++ e :: es.toList.drop (j + 1) := by
  rw [← hge, ← List.drop_eq_getElem_cons hjl, List.take_append_drop]
 have hnd := h.nodup
 have hal := h.all
 have hke := h.keys
 refine ⟨fun e' he' => ?_, by rw [hkeys]; exact h.nodup, fun i u => ?_⟩
 ·have : e'.key ∈ (es.modify j fun e => { e with key := .int .i64 k, val := v }).toList.map (·.key) := List.mem_map.2 ⟨e', he', rfl⟩
  rw [hkeys] at this
  obtain ⟨x, hx, hxe⟩ := List.mem_map.1 this
  rw [← hxe]; exact h.keys x hx
 ·rw [hm]
  rw [hL] at hnd
  have hal := hal i u
  rw [hL] at hal
  obtain ⟨T, hT⟩ : ∃ T, es.toList.take j = T := ⟨_, rfl⟩
  obtain ⟨D, hD⟩ : ∃ D, es.toList.drop (j + 1) = D := ⟨_, rfl⟩
  rw [hT, hD] at hnd hal ⊢
  simp only [List.map_append, List.map_cons] at hnd
  obtain ⟨n1, n2, n3⟩ := List.nodup_append.1 hnd
  obtain ⟨n4, n5⟩ := List.nodup_cons.1 n2
  have hTk : ∀ x ∈ T, x.key ≠ .int .i64 k := fun x hx hh => n3 x.key (List.mem_map.2 ⟨x, hx, rfl⟩) e.key List.mem_cons_self (hh.trans hk.symm)
  have hDk : ∀ x ∈ D, x.key ≠ .int .i64 k := fun x hx hh => n4 (List.mem_map.2 ⟨x, hx, hh.trans hk.symm⟩)
  simp only [List.mem_append, List.mem_cons] at hal ⊢
  unfold putF
  by_cases hi : i = k
  ·subst hi
   rw [if_pos rfl]
   constructor
   ·intro hh; cases hh; exact ⟨_, .inr (.inl rfl), rfl, rfl⟩
   ·rintro ⟨x, hx | rfl | hx, h1, h2⟩
    ·exact absurd h1 (hTk x hx)
    ·rw [← h2]
    ·exact absurd h1 (hDk x hx)
  ·rw [if_neg hi, hal]
   constructor
   ·rintro ⟨x, hx | rfl | hx, h1, h2⟩
    ·exact ⟨x, .inl hx, h1, h2⟩
    ·rw [hk] at h1; simp only [Value.int.injEq, true_and] at h1; exact absurd h1.symm hi
    ·exact ⟨x, .inr (.inr hx), h1, h2⟩
   ·rintro ⟨x, hx | rfl | hx, h1, h2⟩
    ·exact ⟨x, .inl hx, h1, h2⟩
    ·simp only [Value.int.injEq, true_and] at h1; exact absurd h1.symm hi
    ·exact ⟨x, .inr (.inr hx), h1, h2⟩
def mapF (p : Nat) (f : Int → Option Value) : Res := exR fun (s : Array MapEntry × Nat) => andR (MapOk s.1 f) (obj p (.map s.1 s.2))
section
variable {P : Program} {E : Env} {hp : Heap} {cl : Cls} {d : Option Tmp} {ty : TypeId} {pos : String} {af : Array Edge} {g : Option (Nat × Bool)}
variable {x y z : Operand} {t t' : TypeId}
theorem opl_mkMapF : OpL P ⟨d, .makeMap t none, ty, pos, af, g⟩ E hp (fun v hp' => ∃ p, v = .map (some p) ∧ New (mapF p (fun _ => none)) hp hp') := by
 intro n a w ho hw K hK
 subst hw
 have hrun : (execOp a.eval ⟨d, .makeMap t none, ty, pos, af, g⟩).run P w = .ok (.value (.map (some w.heap.size))) { w with heap := w.heap.push (.map #[] 0) } := by
  simp [execOp, Instr.makeMap]
 simp only [Oper.wp, hrun, Oper.upon]
 refine hK _ _ ⟨rfl, rfl, rfl⟩ ⟨_, rfl, ?_⟩
 obtain ⟨h1, S, h2, h3⟩ := new_obj (.map #[] 0) w.heap
 exact ⟨h1, S, ⟨(#[], 0), MapOk.empty, h2⟩, h3⟩
theorem opl_mapPut {B : Nat} {h0 : Heap} {rs : List Res} (st : St B h0 hp rs) (j : Nat) {p : Nat} {f : Int → Option Value} {k : Int} {v : Value} (hj : rs[j]? = some (mapF p f)) (hx : ev E x = some (.map (some p))) (hy : ev E y = some (.int .i64 k)) (hz : ev E z = some v)
  (ht : mapI P t = true) : OpL P ⟨d, .mapUpdate t x y z, ty, pos, af, g⟩ E hp (fun _ hp' => St B h0 hp' (rs.set j (mapF p (putF f k v)))) := by
 intro n a w ho hw K hK
 subst hw
 obtain ⟨kt, e, hu, hk⟩ := mapI_spec ht
 obtain ⟨S, ⟨⟨es, clock⟩, hes, hS, hb⟩, _⟩ := st.at_ hj
 simp only at hes hb
 have fin : ∀ es' clock', MapOk es' (putF f k v) → St B h0 (w.heap.setIfInBounds p (.map es' clock')) (rs.set j (mapF p (putF f k v))) := fun es' clock' hok => st.upd hj ⟨by simp, fun S' hS' => by
  obtain ⟨⟨es1, clock1⟩, hes', hS1, hb1⟩ := hS'
  rw [hb] at hb1
  cases hb1
  refine ⟨S', ⟨(es', clock'), hok, hS1, ?_⟩, fun k hk => .inl hk, fun q _ hq => ?_⟩
  ·simp [(Array.getElem?_eq_some_iff.1 hb).1]
  ·exact Array.getElem?_setIfInBounds_ne (fun e => hq ((hS1 q).2 e.symm))⟩
 rcases MapKept.findNow_spec (d := .int .i64) (k := .int .i64 k) (by simp [MapKept.IsKey]) es.toList 0 hes.isKey with ⟨hf, hn⟩ | ⟨i, e', hf, he', hke⟩
 ·have hrun : (execOp a.eval ⟨d, .mapUpdate t x y z, ty, pos, af, g⟩).run P w = .ok .skip { w with heap := w.heap.setIfInBounds p (.map (es.push { key := .int .i64 k, val := v, born := clock }) (clock + 1)) } := by
   simp [execOp, ho.eval hx, ho.eval hy, ho.eval hz, Instr.mapUpdate, run_underlying hu, MapKept.run_getObj_map hb, run_checkKey_int hk, MapKept.run_findKey hk hf, MapKept.run_setObj_map _ hb]
  simp only [Oper.wp, hrun, Oper.upon]
  exact hK _ _ ⟨rfl, rfl, rfl⟩ (fin _ _ (hes.push hn v clock))
 ·rw [Nat.zero_add] at hf
  have hse : es[i]? = some e' := by rw [← Array.getElem?_toList]; exact he'
  have hrun : (execOp a.eval ⟨d, .mapUpdate t x y z, ty, pos, af, g⟩).run P w = .ok .skip { w with heap := w.heap.setIfInBounds p (.map (es.modify i fun e => { e with key := .int .i64 k, val := v }) clock) } := by
   simp [execOp, ho.eval hx, ho.eval hy, ho.eval hz, Instr.mapUpdate, run_underlying hu, MapKept.run_getObj_map hb, run_checkKey_int hk, MapKept.run_findKey hk hf, MapKept.run_setObj_map _ hb, hse, hke, Instr.keyThatStays, Instr.sameBits]
  simp only [Oper.wp, hrun, Oper.upon]
  exact hK _ _ ⟨rfl, rfl, rfl⟩ (fin _ _ (hes.set he' hke v))
def mapII (P : Program) (t : TypeId) : Bool :=
  match P.underlying t with
  | some (.map k e) => (match P.underlying k with | some (.int .i64) => true | _ => false) && (match P.info? e with | some { zero := some (.int .i64 0), .. } => true | _ => false)
  | _ => false
theorem mapII_spec (h : mapII P t = true) : ∃ k e, P.underlying t = some (.map k e) ∧ P.underlying k = some (.int .i64) ∧ ∀ w : World, (zeroValue e).run P w = .ok (.int .i64 0) w := by
 unfold mapII at h
 split at h
 ·rename_i k e hu
  simp only [Bool.and_eq_true] at h
  obtain ⟨h1, h2⟩ := h
  split at h1
  ·rename_i hk
   split at h2
   ·rename_i hz; exact ⟨k, e, hu, hk, fun w => by simp [zeroValue, typeInfo, hz]⟩
   ·cases h2
  ·cases h1
 ·cases h
theorem opl_mapAsk {B : Nat} {h0 : Heap} {rs : List Res} (st : St B h0 hp rs) (j : Nat) {p : Nat} {f : Int → Option Value} {k : Int} (hj : rs[j]? = some (mapF p f)) (hx : ev E x = some (.map (some p))) (hy : ev E y = some (.int .i64 k))
  (ht : mapII P t = true) : OpL P ⟨d, .lookup t x y true, ty, pos, af, g⟩ E hp (fun u hp' => u = .tuple #[(f k).getD (.int .i64 0), .bool (f k).isSome] ∧ hp = hp') := by
 intro n a w ho hw K hK
 subst hw
 obtain ⟨kt, e, hu, hk, hz⟩ := mapII_spec ht
 obtain ⟨S, ⟨⟨es, clock⟩, hes, hS, hb⟩, _⟩ := st.at_ hj
 simp only at hes hb
 rcases MapKept.findNow_spec (d := .int .i64) (k := .int .i64 k) (by simp [MapKept.IsKey]) es.toList 0 hes.isKey with ⟨hf, hn⟩ | ⟨i, e', hf, he', hke⟩
 ·have hnone : f k = none := by
   cases hfk : f k with
   | none => rfl
   | some v =>
    obtain ⟨e, he, h1, _⟩ := (hes.all k v).1 hfk
    exact absurd h1 (hn e he)
  have hrun : (execOp a.eval ⟨d, .lookup t x y true, ty, pos, af, g⟩).run P w = .ok (.value (.tuple #[.int .i64 0, .bool false])) w := by
   simp [execOp, ho.eval hx, ho.eval hy, Instr.lookup, run_underlying hu, MapKept.run_getObj_map hb, run_checkKey_int hk, MapKept.run_findKey hk hf, hz w]
  simp only [Oper.wp, hrun, Oper.upon]
  exact hK _ _ (Inv.refl w) ⟨by rw [hnone]; rfl, rfl⟩
 ·rw [Nat.zero_add] at hf
  have hsome : f k = some e'.val := (hes.all k e'.val).2 ⟨e', List.mem_of_getElem? he', hke, rfl⟩
  have hrun : (execOp a.eval ⟨d, .lookup t x y true, ty, pos, af, g⟩).run P w = .ok (.value (.tuple #[e'.val, .bool true])) w := by
   simp [execOp, ho.eval hx, ho.eval hy, Instr.lookup, run_underlying hu, MapKept.run_getObj_map hb, run_checkKey_int hk, MapKept.run_findKey hk hf]
  simp only [Oper.wp, hrun, Oper.upon]
  exact hK _ _ (Inv.refl w) ⟨by rw [hsome]; rfl, rfl⟩
end
end Go.Bn
end

section
set_option linter.unusedVariables false
set_option linter.unusedSimpArgs false
set_option maxHeartbeats 4000000
set_option maxRecDepth 20000
namespace Go.Bn
open Go Proofs
theorem mlen_spec {n c a d : Nat} {A : Option Addr} {b : List UInt8} {h0 : Heap} (hr : Rd h0 A (b.map byteV)) (hl : b.length = n) (hn : n ≤ 1099511627776) (ha : a ≤ 1099511627776) (hd : d ≤ 1099511627776) :
  Ret Tryz.prog 168 [.slice A n c, nV a, nV d] h0 fun v h' => v = nV (lenM b a d) ∧ h0 = h' := by
 have hout : (n ≤ a ∨ d < 1 ∨ 32768 < d ∨ a < d) → lenM b a d = 0 := fun h => by
  by_cases h0 : lenM b a d = 0
  ·exact h0
  ·have := lenM_in h0; omega
 refine ret_of_X Tryz.func168 rfl rfl fun w0 hw0 => ?_
 simp only [argE, Nat.zero_add, Nat.reduceAdd]
 refine X_seq (X_reg (XA rfl rfl rfl (XR_nil (X_seq (X_seq (X_reg (XV rfl rfl rfl ?_)))))))
 refine XR_a (op_lss rfl rfl) rfl rfl ?_
 refine XV rfl rfl rfl ?_
 refine XR_if 10 rfl (fun h => ?_) (fun h => ?_)
 ·exact absurd h (by omega)
 ·refine XV rfl rfl rfl (XV rfl rfl rfl ?_)
  refine XR_a (op_len rfl rfl rfl) rfl rfl ?_
  refine XR_a (op_geq rfl rfl) rfl rfl ?_
  refine XR_a (op_pick_f rfl rfl) rfl rfl (XV rfl rfl rfl ?_)
  refine XR_if 16 rfl (fun h => ?_) (fun h => ?_)
  ·have hz : lenM b a d = 0 := hout (by omega)
   refine XR_no rfl rfl (XR_no rfl rfl (XR_a (op_pick_t rfl rfl) rfl rfl (XV rfl rfl rfl (XR_no rfl rfl (XR_no rfl rfl (XR_a (op_pick_t rfl rfl) rfl rfl (XV rfl rfl rfl (XR_no rfl rfl (XR_no rfl rfl ?_)))))))))
   refine XR_no rfl rfl (XR_a (op_pick_t rfl rfl) rfl rfl (XR_nil (X_then rfl (X_seq (X_reg (XA rfl rfl rfl (XR_nil ?_)))))))
   refine X_ret (.cons (.tmp rfl) .nil) ?_
   rw [hz]
   exact ⟨rfl, rfl⟩
  ·refine XV rfl rfl rfl ?_
   refine XR_a (op_lss rfl rfl) rfl rfl ?_
   refine XR_a (op_pick_f rfl rfl) rfl rfl (XV rfl rfl rfl ?_)
   refine XR_if 20 rfl (fun h => ?_) (fun h => ?_)
   ·have hz : lenM b a d = 0 := hout (by omega)
    refine XR_no rfl rfl (XR_no rfl rfl (XR_a (op_pick_t rfl rfl) rfl rfl (XV rfl rfl rfl (XR_no rfl rfl (XR_no rfl rfl (XR_no rfl rfl (XR_a (op_pick_t rfl rfl) rfl rfl (XR_nil (X_then rfl ?_)))))))))
    refine X_seq (X_reg (XA rfl rfl rfl (XR_nil ?_)))
    refine X_ret (.cons (.tmp rfl) .nil) ?_
    rw [hz]
    exact ⟨rfl, rfl⟩
   ·refine XV rfl rfl rfl ?_
    refine XR_a (op_gtr rfl rfl) rfl rfl ?_
    refine XR_a (op_pick_f rfl rfl) rfl rfl (XV rfl rfl rfl ?_)
    refine XR_if 24 rfl (fun h => ?_) (fun h => ?_)
    ·have hz : lenM b a d = 0 := hout (by omega)
     refine XR_no rfl rfl (XR_no rfl rfl (XR_no rfl rfl (XR_a (op_pick_t rfl rfl) rfl rfl (XR_nil (X_then rfl (X_seq (X_reg (XA rfl rfl rfl (XR_nil ?_)))))))))
     refine X_ret (.cons (.tmp rfl) .nil) ?_
     rw [hz]
     exact ⟨rfl, rfl⟩
    ·refine XV rfl rfl rfl (XV rfl rfl rfl ?_)
     refine XR_a (op_gtr rfl rfl) rfl rfl ?_
     refine XR_a (op_pick_f rfl rfl) rfl rfl (XR_nil ?_)
     refine X_if rfl (fun h => ?_) (fun h => ?_)
     ·have hz : lenM b a d = 0 := hout (by omega)
      refine X_seq (X_reg (XA rfl rfl rfl (XR_nil ?_)))
      refine X_ret (.cons (.tmp rfl) .nil) ?_
      rw [hz]
      exact ⟨rfl, rfl⟩
     ·refine X_skip (X_seq (X_reg (XA rfl rfl rfl (XR_nil (X_seq (X_block ?_))))))
      obtain ⟨g, o, rfl, hc⟩ := hr.at_ (by rw [List.length_map]; omega)
      have hci : ∀ i (hi : i < b.length), cellH h0 ⟨g, o + i, none⟩ = some (byteV b[i]) := fun i hi => hc i _ (by rw [List.getElem?_map, List.getElem?_eq_getElem hi]; rfl)
      have hL : lenM b a d = min 258 (likeM (b.drop a) (b.drop (a - d))) := by unfold lenM; rw [if_neg (by omega)]
      refine X_loop (fun k => 258 - k) (fun k => [(0, .slice (some ⟨g, o, none⟩) n c), (1, nV a), (2, nV d), (7, nV k)])
       (fun (k : Nat) hp => h0 = hp ∧ k ≤ 258 ∧ a + k ≤ n ∧ k + likeM (b.drop (a + k)) (b.drop (a - d + k)) = likeM (b.drop a) (b.drop (a - d)))
       0 (.cons rfl (.cons rfl (.cons rfl (.cons rfl (.nil _))))) ⟨rfl, by omega, by omega, by rw [Nat.zero_add, Nat.add_zero, Nat.add_zero]⟩ ?_
      rintro k hp ⟨rfl, hk, hak, hlk⟩
      refine X_seq (X_seq ?_)
      refine X_draw byKind (by kernel_rfl) (by kernel_rfl) ?_
      refine XV rfl rfl rfl ?_
      refine XR_a (op_lss rfl rfl) rfl rfl ?_
      refine XV rfl rfl rfl ?_
      refine XR_if 31 rfl (fun h => ?_) (fun h => ?_)
      ·refine XV rfl rfl rfl (XV rfl rfl rfl ?_)
       first | refine XR_a (op_addN rfl rfl (by simp only [inK]; omega)) rfl rfl ?_ | refine XR_a (op_addI rfl rfl (by simp only [inK]; omega)) rfl rfl ?_ | refine XR_a (op_add rfl rfl) rfl rfl ?_
       refine XV rfl rfl rfl ?_
       refine XR_a (op_len rfl rfl rfl) rfl rfl ?_
       refine XR_a (op_lss rfl rfl) rfl rfl ?_
       refine XR_a (op_pick_t rfl rfl) rfl rfl (XV rfl rfl rfl ?_)
       refine XR_if 39 rfl (fun h => ?_) (fun h => ?_)
       ·have hst := likeM_at (b := b) (i := a + k) (j := a - d + k) (by omega) (by omega)
        refine XV rfl rfl rfl (XV rfl rfl rfl (XV rfl rfl rfl ?_))
        first | refine XR_a (op_addN rfl rfl (by simp only [inK]; omega)) rfl rfl ?_ | refine XR_a (op_addI rfl rfl (by simp only [inK]; omega)) rfl rfl ?_ | refine XR_a (op_add rfl rfl) rfl rfl ?_
        refine XR_a (op_index1 (i := a + k) rfl rfl rfl (by omega)) rfl rfl ?_
        refine XR_a (op_ld (hci (a + k) (by omega)) rfl rfl rfl) rfl rfl ?_
        refine XV rfl rfl rfl (XV rfl rfl rfl (XV rfl rfl rfl ?_))
        first | refine XR_a (op_addN rfl rfl (by simp only [inK]; omega)) rfl rfl ?_ | refine XR_a (op_addI rfl rfl (by simp only [inK]; omega)) rfl rfl ?_ | refine XR_a (op_add rfl rfl) rfl rfl ?_
        refine XV rfl rfl rfl ?_
        refine XR_a (op_subN rfl rfl (by omega) (by simp only [inK]; omega)) rfl rfl ?_
        refine XR_a (op_index1 (i := a + k - d) rfl rfl rfl (by omega)) rfl rfl ?_
        refine XR_a (op_ld (hci (a + k - d) (by omega)) rfl rfl rfl) rfl rfl ?_
        refine XR_a (op_eql rfl rfl) rfl rfl ?_
        refine XR_a (op_pick_t rfl rfl) rfl rfl (XR_nil ?_)
        refine X_if rfl (fun h => ?_) (fun h => ?_)
        ·refine X_skip (X_block (X_reg (XV rfl rfl rfl ?_)))
         first | refine XR_a (op_addN (n := 1) rfl rfl (by simp only [inK]; omega)) rfl rfl ?_ | refine XR_a (op_addI rfl rfl (by simp only [inK]; omega)) rfl rfl ?_ | refine XR_a (op_add rfl rfl) rfl rfl ?_
         refine XA rfl rfl rfl (XR_nil (X_blk ?_))
         exact X_again (k + 1) (.cons rfl (.cons rfl (.cons rfl (.cons rfl (.nil _))))) ⟨rfl, by omega, by omega, by
          have he : b[a + k]'(by omega) = b[a - d + k]'(by omega) := by
           have e1 : a + k - d = a - d + k := by omega
           simp only [e1] at h
           exact UInt8.toNat_inj.1 (by omega)
          rw [if_pos he] at hst
          rw [show a + (k + 1) = a + k + 1 by omega, show a - d + (k + 1) = a - d + k + 1 by omega]; omega⟩ (by omega)
        ·refine X_exit rfl (X_seq (X_reg (XV rfl rfl rfl (XA rfl rfl rfl (XR_nil ?_)))))
         refine X_ret (.cons (.tmp rfl) .nil) ?_
         have he : ¬ b[a + k]'(by omega) = b[a - d + k]'(by omega) := fun hh => by
          have e1 : a + k - d = a - d + k := by omega
          simp only [e1] at h
          rw [hh] at h
          exact h rfl
         rw [if_neg he] at hst
         rw [hL, show min 258 (likeM (b.drop a) (b.drop (a - d))) = k by omega]
         exact ⟨rfl, rfl⟩
       ·refine XR_no rfl rfl (XR_no rfl rfl (XR_no rfl rfl (XR_no rfl rfl (XR_no rfl rfl (XR_no rfl rfl (XR_no rfl rfl (XR_no rfl rfl (XR_no rfl rfl (XR_no rfl rfl ?_)))))))))
        refine XR_no rfl rfl (XR_no rfl rfl (XR_no rfl rfl (XR_no rfl rfl (XR_no rfl rfl (XR_a (op_pick_f rfl rfl) rfl rfl (XR_nil (X_else rfl (X_exit rfl (X_seq ?_)))))))))
        refine X_reg (XV rfl rfl rfl (XA rfl rfl rfl (XR_nil ?_)))
        refine X_ret (.cons (.tmp rfl) .nil) ?_
        rw [likeM_out (by omega)] at hlk
        rw [hL, show min 258 (likeM (b.drop a) (b.drop (a - d))) = k by omega]
        exact ⟨rfl, rfl⟩
      ·refine XR_no rfl rfl (XR_no rfl rfl (XR_no rfl rfl (XR_no rfl rfl (XR_no rfl rfl (XR_no rfl rfl (XR_a (op_pick_f rfl rfl) rfl rfl (XV rfl rfl rfl (XR_no rfl rfl (XR_no rfl rfl ?_)))))))))
       refine XR_no rfl rfl (XR_no rfl rfl (XR_no rfl rfl (XR_no rfl rfl (XR_no rfl rfl (XR_no rfl rfl (XR_no rfl rfl (XR_no rfl rfl (XR_no rfl rfl (XR_no rfl rfl ?_)))))))))
       refine XR_no rfl rfl (XR_no rfl rfl (XR_no rfl rfl (XR_a (op_pick_f rfl rfl) rfl rfl (XR_nil (X_else rfl (X_exit rfl (X_seq (X_reg (XV rfl rfl rfl ?_)))))))))
       refine XA rfl rfl rfl (XR_nil ?_)
       refine X_ret (.cons (.tmp rfl) .nil) ?_
       rw [hL, show min 258 (likeM (b.drop a) (b.drop (a - d))) = k by omega]
       exact ⟨rfl, rfl⟩
end Go.Bn
end
