/- The contracts of package slot's functions, and of its reference's. -/
import Derived.Test.YtigbhndidohgbaaProg
import Derived.Test.YtigbhndidohgbaaCrc
import Derived.Test.YtigbhndidohgbaaFieldR
import Derived.Test.YtigbhndidohgbaaPCode
import Derived.Test.YtigbhndidohgbaaOps7
set_option linter.unusedVariables false
set_option linter.unusedSimpArgs false
set_option maxHeartbeats 4000000
set_option maxRecDepth 20000
namespace Go.Bn
open Go Proofs


/-- A slot's value. -/
@[reducible] def sltA (s : Slt) : Value := .agg #[.int .i64 s.seq, .int .i64 s.en, .int .i64 s.dir, .bool s.cl]

theorem sright_spec (seq en dir : Int) (cl : Bool) (h0 : Heap) : Ret Try.prog 40 [.agg #[.int .i64 seq, .int .i64 en, .int .i64 dir, .bool cl]] h0 fun v h' => v = .bool (decide (Slt.mk seq en dir cl).right) ∧ Ext h0 h' := by
  refine ret_of_X Try.func40 rfl rfl fun w0 hw0 => ?_
  simp only [argE, Nat.zero_add, Nat.reduceAdd]
  have st := St.start h0
  simp only [Slt.right]
  refine X_seq ?_
  refine X_reg ?_
  refine XR_wa (opl_bx rfl rfl) rfl rfl rfl ?_
  rintro _ hp ⟨p, rfl, hnew⟩
  have st := st.new hnew
  refine XR_a (op_assign rfl) rfl rfl ?_
  refine XR_nil ?_
  refine X_seq ?_
  refine X_seq ?_
  refine X_reg ?_
  first | refine XR_a (op_field0 rfl rfl) rfl rfl ?_ | refine XR_a (op_fieldn rfl rfl) rfl rfl ?_
  refine XR_a (op_ld (by first | assumption | exact st.cell 0 rfl rfl | exact st.cell 1 rfl rfl | exact st.cell 2 rfl rfl | exact st.cell 3 rfl rfl) rfl rfl rfl) rfl rfl ?_
  refine XR_a (op_lss rfl rfl) rfl rfl ?_
  refine XR_a (op_move rfl) rfl rfl ?_
  refine XR_if 6 rfl (fun h => ?_) (fun h => ?_)
  · refine XR_no rfl rfl ?_
    refine XR_no rfl rfl ?_
    refine XR_no rfl rfl ?_
    refine XR_a (op_pick_t rfl rfl) rfl rfl ?_
    refine XR_a (op_move rfl) rfl rfl ?_
    refine XR_no rfl rfl ?_
    refine XR_no rfl rfl ?_
    refine XR_no rfl rfl ?_
    refine XR_a (op_pick_t rfl rfl) rfl rfl ?_
    refine XR_a (op_move rfl) rfl rfl ?_
    refine XR_no rfl rfl ?_
    refine XR_no rfl rfl ?_
    refine XR_no rfl rfl ?_
    refine XR_a (op_pick_t rfl rfl) rfl rfl ?_
    refine XR_nil ?_
    refine X_then rfl ?_
    refine X_seq ?_
    refine X_reg ?_
    refine XR_a (op_assign rfl) rfl rfl ?_
    refine XR_nil ?_
    refine X_ret (.cons (.tmp rfl) .nil) ?_
    exact ⟨congrArg Value.bool (decide_eq_false (by rintro ⟨h1, h2, h3, h4, _⟩; omega)).symm, st.low⟩
  · first | refine XR_a (op_field0 rfl rfl) rfl rfl ?_ | refine XR_a (op_fieldn rfl rfl) rfl rfl ?_
    refine XR_a (op_ld (by first | assumption | exact st.cell 0 rfl rfl | exact st.cell 1 rfl rfl | exact st.cell 2 rfl rfl | exact st.cell 3 rfl rfl) rfl rfl rfl) rfl rfl ?_
    refine XR_a (op_gtr rfl rfl) rfl rfl ?_
    refine XR_a (op_pick_f rfl rfl) rfl rfl ?_
    refine XR_a (op_move rfl) rfl rfl ?_
    refine XR_if 11 rfl (fun h => ?_) (fun h => ?_)
    · refine XR_no rfl rfl ?_
      refine XR_no rfl rfl ?_
      refine XR_no rfl rfl ?_
      refine XR_a (op_pick_t rfl rfl) rfl rfl ?_
      refine XR_a (op_move rfl) rfl rfl ?_
      refine XR_no rfl rfl ?_
      refine XR_no rfl rfl ?_
      refine XR_no rfl rfl ?_
      refine XR_a (op_pick_t rfl rfl) rfl rfl ?_
      refine XR_nil ?_
      refine X_then rfl ?_
      refine X_seq ?_
      refine X_reg ?_
      refine XR_a (op_assign rfl) rfl rfl ?_
      refine XR_nil ?_
      refine X_ret (.cons (.tmp rfl) .nil) ?_
      exact ⟨congrArg Value.bool (decide_eq_false (by rintro ⟨h1, h2, h3, h4, _⟩; omega)).symm, st.low⟩
    · first | refine XR_a (op_field0 rfl rfl) rfl rfl ?_ | refine XR_a (op_fieldn rfl rfl) rfl rfl ?_
      refine XR_a (op_ld (by first | assumption | exact st.cell 0 rfl rfl | exact st.cell 1 rfl rfl | exact st.cell 2 rfl rfl | exact st.cell 3 rfl rfl) rfl rfl rfl) rfl rfl ?_
      refine XR_a (op_lss rfl rfl) rfl rfl ?_
      refine XR_a (op_pick_f rfl rfl) rfl rfl ?_
      refine XR_a (op_move rfl) rfl rfl ?_
      refine XR_if 16 rfl (fun h => ?_) (fun h => ?_)
      · refine XR_no rfl rfl ?_
        refine XR_no rfl rfl ?_
        refine XR_no rfl rfl ?_
        refine XR_a (op_pick_t rfl rfl) rfl rfl ?_
        refine XR_nil ?_
        refine X_then rfl ?_
        refine X_seq ?_
        refine X_reg ?_
        refine XR_a (op_assign rfl) rfl rfl ?_
        refine XR_nil ?_
        refine X_ret (.cons (.tmp rfl) .nil) ?_
        exact ⟨congrArg Value.bool (decide_eq_false (by rintro ⟨h1, h2, h3, h4, _⟩; omega)).symm, st.low⟩
      · first | refine XR_a (op_field0 rfl rfl) rfl rfl ?_ | refine XR_a (op_fieldn rfl rfl) rfl rfl ?_
        refine XR_a (op_ld (by first | assumption | exact st.cell 0 rfl rfl | exact st.cell 1 rfl rfl | exact st.cell 2 rfl rfl | exact st.cell 3 rfl rfl) rfl rfl rfl) rfl rfl ?_
        refine XR_a (op_gtr rfl rfl) rfl rfl ?_
        refine XR_a (op_pick_f rfl rfl) rfl rfl ?_
        refine XR_nil ?_
        refine X_if rfl (fun h => ?_) (fun h => ?_)
        · refine X_seq ?_
          refine X_reg ?_
          refine XR_a (op_assign rfl) rfl rfl ?_
          refine XR_nil ?_
          refine X_ret (.cons (.tmp rfl) .nil) ?_
          exact ⟨congrArg Value.bool (decide_eq_false (by rintro ⟨h1, h2, h3, h4, _⟩; omega)).symm, st.low⟩
        · refine X_skip ?_
          refine X_seq ?_
          refine X_seq ?_
          refine X_reg ?_
          first | refine XR_a (op_field0 rfl rfl) rfl rfl ?_ | refine XR_a (op_fieldn rfl rfl) rfl rfl ?_
          refine XR_a (op_ld (by first | assumption | exact st.cell 0 rfl rfl | exact st.cell 1 rfl rfl | exact st.cell 2 rfl rfl | exact st.cell 3 rfl rfl) rfl rfl rfl) rfl rfl ?_
          by_cases hcl : cl = true
          · subst hcl
            refine XR_a (op_not rfl) rfl rfl ?_
            refine XR_nil ?_
            refine X_else rfl ?_
            refine X_skip ?_
            refine X_seq ?_
            refine X_reg ?_
            first | refine XR_a (op_field0 rfl rfl) rfl rfl ?_ | refine XR_a (op_fieldn rfl rfl) rfl rfl ?_
            refine XR_a (op_ld (by first | assumption | exact st.cell 0 rfl rfl | exact st.cell 1 rfl rfl | exact st.cell 2 rfl rfl | exact st.cell 3 rfl rfl) rfl rfl rfl) rfl rfl ?_
            refine XR_a (op_geq rfl rfl) rfl rfl ?_
            refine XR_a (op_move rfl) rfl rfl ?_
            refine XR_if 30 rfl (fun h => ?_) (fun h => ?_)
            · first | refine XR_a (op_field0 rfl rfl) rfl rfl ?_ | refine XR_a (op_fieldn rfl rfl) rfl rfl ?_
              refine XR_a (op_ld (by first | assumption | exact st.cell 0 rfl rfl | exact st.cell 1 rfl rfl | exact st.cell 2 rfl rfl | exact st.cell 3 rfl rfl) rfl rfl rfl) rfl rfl ?_
              refine XR_a (op_leq rfl rfl) rfl rfl ?_
              refine XR_a (op_pick_t rfl rfl) rfl rfl ?_
              refine XR_a (op_move rfl) rfl rfl ?_
              refine XR_if 35 rfl (fun h => ?_) (fun h => ?_)
              · first | refine XR_a (op_field0 rfl rfl) rfl rfl ?_ | refine XR_a (op_fieldn rfl rfl) rfl rfl ?_
                refine XR_a (op_ld (by first | assumption | exact st.cell 0 rfl rfl | exact st.cell 1 rfl rfl | exact st.cell 2 rfl rfl | exact st.cell 3 rfl rfl) rfl rfl rfl) rfl rfl ?_
                first | refine XR_a (op_field0 rfl rfl) rfl rfl ?_ | refine XR_a (op_fieldn rfl rfl) rfl rfl ?_
                refine XR_a (op_ld (by first | assumption | exact st.cell 0 rfl rfl | exact st.cell 1 rfl rfl | exact st.cell 2 rfl rfl | exact st.cell 3 rfl rfl) rfl rfl rfl) rfl rfl ?_
                refine XR_a (op_subI rfl rfl (by simp only [inK]; omega)) rfl rfl ?_
                refine XR_a (op_leq rfl rfl) rfl rfl ?_
                refine XR_a (op_pick_t rfl rfl) rfl rfl ?_
                refine XR_a (op_assign rfl) rfl rfl ?_
                refine XR_nil ?_
                refine X_ret (.cons (.tmp rfl) .nil) ?_
                refine ⟨congrArg Value.bool (decide_eq_decide.2 ⟨fun hh => ⟨by omega, by omega, by omega, by omega, by simp; omega⟩, fun hh => by have h5 := hh.2.2.2.2; simp at h5; omega⟩), st.low⟩
              · refine XR_no rfl rfl ?_
                refine XR_no rfl rfl ?_
                refine XR_no rfl rfl ?_
                refine XR_no rfl rfl ?_
                refine XR_no rfl rfl ?_
                refine XR_no rfl rfl ?_
                refine XR_a (op_pick_f rfl rfl) rfl rfl ?_
                refine XR_a (op_assign rfl) rfl rfl ?_
                refine XR_nil ?_
                refine X_ret (.cons (.tmp rfl) .nil) ?_
                exact ⟨congrArg Value.bool (decide_eq_false (by rintro ⟨_, _, _, _, h5⟩; simp at h5; omega)).symm, st.low⟩
            · refine XR_no rfl rfl ?_
              refine XR_no rfl rfl ?_
              refine XR_no rfl rfl ?_
              refine XR_a (op_pick_f rfl rfl) rfl rfl ?_
              refine XR_a (op_move rfl) rfl rfl ?_
              refine XR_no rfl rfl ?_
              refine XR_no rfl rfl ?_
              refine XR_no rfl rfl ?_
              refine XR_no rfl rfl ?_
              refine XR_no rfl rfl ?_
              refine XR_no rfl rfl ?_
              refine XR_a (op_pick_f rfl rfl) rfl rfl ?_
              refine XR_a (op_assign rfl) rfl rfl ?_
              refine XR_nil ?_
              refine X_ret (.cons (.tmp rfl) .nil) ?_
              exact ⟨congrArg Value.bool (decide_eq_false (by rintro ⟨_, _, _, _, h5⟩; simp at h5; omega)).symm, st.low⟩
          · obtain rfl : cl = false := by simpa using hcl
            refine XR_a (op_not rfl) rfl rfl ?_
            refine XR_nil ?_
            refine X_then rfl ?_
            refine X_seq ?_
            refine X_reg ?_
            first | refine XR_a (op_field0 rfl rfl) rfl rfl ?_ | refine XR_a (op_fieldn rfl rfl) rfl rfl ?_
            refine XR_a (op_ld (by first | assumption | exact st.cell 0 rfl rfl | exact st.cell 1 rfl rfl | exact st.cell 2 rfl rfl | exact st.cell 3 rfl rfl) rfl rfl rfl) rfl rfl ?_
            refine XR_a (op_eql rfl rfl) rfl rfl ?_
            refine XR_a (op_assign rfl) rfl rfl ?_
            refine XR_nil ?_
            refine X_ret (.cons (.tmp rfl) .nil) ?_
            refine ⟨congrArg Value.bool (decide_eq_decide.2 ⟨fun hh => ⟨by omega, by omega, by omega, by omega, by simpa using hh⟩, fun hh => by simpa using hh.2.2.2.2⟩), st.low⟩

theorem sright_ref (seq en dir : Int) (cl : Bool) (h0 : Heap) : Ret Try.prog 39 [.agg #[.int .i64 seq, .int .i64 en, .int .i64 dir, .bool cl]] h0 fun v h' => v = .bool (decide (Slt.mk seq en dir cl).right) ∧ Ext h0 h' := by
  refine ret_of_X Try.func39 rfl rfl fun w0 hw0 => ?_
  simp only [argE, Nat.zero_add, Nat.reduceAdd]
  have st := St.start h0
  simp only [Slt.right]
  refine X_seq ?_
  refine X_reg ?_
  refine XR_wa (opl_bx rfl rfl) rfl rfl rfl ?_
  rintro _ hp ⟨p, rfl, hnew⟩
  have st := st.new hnew
  refine XR_a (op_assign rfl) rfl rfl ?_
  refine XR_nil ?_
  refine X_seq ?_
  refine X_seq ?_
  refine X_reg ?_
  first | refine XR_a (op_field0 rfl rfl) rfl rfl ?_ | refine XR_a (op_fieldn rfl rfl) rfl rfl ?_
  refine XR_a (op_ld (by first | assumption | exact st.cell 0 rfl rfl | exact st.cell 1 rfl rfl | exact st.cell 2 rfl rfl | exact st.cell 3 rfl rfl) rfl rfl rfl) rfl rfl ?_
  refine XR_a (op_lss rfl rfl) rfl rfl ?_
  refine XR_a (op_move rfl) rfl rfl ?_
  refine XR_if 6 rfl (fun h => ?_) (fun h => ?_)
  · refine XR_no rfl rfl ?_
    refine XR_no rfl rfl ?_
    refine XR_no rfl rfl ?_
    refine XR_a (op_pick_t rfl rfl) rfl rfl ?_
    refine XR_a (op_move rfl) rfl rfl ?_
    refine XR_no rfl rfl ?_
    refine XR_no rfl rfl ?_
    refine XR_no rfl rfl ?_
    refine XR_a (op_pick_t rfl rfl) rfl rfl ?_
    refine XR_a (op_move rfl) rfl rfl ?_
    refine XR_no rfl rfl ?_
    refine XR_no rfl rfl ?_
    refine XR_no rfl rfl ?_
    refine XR_a (op_pick_t rfl rfl) rfl rfl ?_
    refine XR_nil ?_
    refine X_then rfl ?_
    refine X_seq ?_
    refine X_reg ?_
    refine XR_a (op_assign rfl) rfl rfl ?_
    refine XR_nil ?_
    refine X_ret (.cons (.tmp rfl) .nil) ?_
    exact ⟨congrArg Value.bool (decide_eq_false (by rintro ⟨h1, h2, h3, h4, _⟩; omega)).symm, st.low⟩
  · first | refine XR_a (op_field0 rfl rfl) rfl rfl ?_ | refine XR_a (op_fieldn rfl rfl) rfl rfl ?_
    refine XR_a (op_ld (by first | assumption | exact st.cell 0 rfl rfl | exact st.cell 1 rfl rfl | exact st.cell 2 rfl rfl | exact st.cell 3 rfl rfl) rfl rfl rfl) rfl rfl ?_
    refine XR_a (op_gtr rfl rfl) rfl rfl ?_
    refine XR_a (op_pick_f rfl rfl) rfl rfl ?_
    refine XR_a (op_move rfl) rfl rfl ?_
    refine XR_if 11 rfl (fun h => ?_) (fun h => ?_)
    · refine XR_no rfl rfl ?_
      refine XR_no rfl rfl ?_
      refine XR_no rfl rfl ?_
      refine XR_a (op_pick_t rfl rfl) rfl rfl ?_
      refine XR_a (op_move rfl) rfl rfl ?_
      refine XR_no rfl rfl ?_
      refine XR_no rfl rfl ?_
      refine XR_no rfl rfl ?_
      refine XR_a (op_pick_t rfl rfl) rfl rfl ?_
      refine XR_nil ?_
      refine X_then rfl ?_
      refine X_seq ?_
      refine X_reg ?_
      refine XR_a (op_assign rfl) rfl rfl ?_
      refine XR_nil ?_
      refine X_ret (.cons (.tmp rfl) .nil) ?_
      exact ⟨congrArg Value.bool (decide_eq_false (by rintro ⟨h1, h2, h3, h4, _⟩; omega)).symm, st.low⟩
    · first | refine XR_a (op_field0 rfl rfl) rfl rfl ?_ | refine XR_a (op_fieldn rfl rfl) rfl rfl ?_
      refine XR_a (op_ld (by first | assumption | exact st.cell 0 rfl rfl | exact st.cell 1 rfl rfl | exact st.cell 2 rfl rfl | exact st.cell 3 rfl rfl) rfl rfl rfl) rfl rfl ?_
      refine XR_a (op_lss rfl rfl) rfl rfl ?_
      refine XR_a (op_pick_f rfl rfl) rfl rfl ?_
      refine XR_a (op_move rfl) rfl rfl ?_
      refine XR_if 16 rfl (fun h => ?_) (fun h => ?_)
      · refine XR_no rfl rfl ?_
        refine XR_no rfl rfl ?_
        refine XR_no rfl rfl ?_
        refine XR_a (op_pick_t rfl rfl) rfl rfl ?_
        refine XR_nil ?_
        refine X_then rfl ?_
        refine X_seq ?_
        refine X_reg ?_
        refine XR_a (op_assign rfl) rfl rfl ?_
        refine XR_nil ?_
        refine X_ret (.cons (.tmp rfl) .nil) ?_
        exact ⟨congrArg Value.bool (decide_eq_false (by rintro ⟨h1, h2, h3, h4, _⟩; omega)).symm, st.low⟩
      · first | refine XR_a (op_field0 rfl rfl) rfl rfl ?_ | refine XR_a (op_fieldn rfl rfl) rfl rfl ?_
        refine XR_a (op_ld (by first | assumption | exact st.cell 0 rfl rfl | exact st.cell 1 rfl rfl | exact st.cell 2 rfl rfl | exact st.cell 3 rfl rfl) rfl rfl rfl) rfl rfl ?_
        refine XR_a (op_gtr rfl rfl) rfl rfl ?_
        refine XR_a (op_pick_f rfl rfl) rfl rfl ?_
        refine XR_nil ?_
        refine X_if rfl (fun h => ?_) (fun h => ?_)
        · refine X_seq ?_
          refine X_reg ?_
          refine XR_a (op_assign rfl) rfl rfl ?_
          refine XR_nil ?_
          refine X_ret (.cons (.tmp rfl) .nil) ?_
          exact ⟨congrArg Value.bool (decide_eq_false (by rintro ⟨h1, h2, h3, h4, _⟩; omega)).symm, st.low⟩
        · refine X_skip ?_
          refine X_seq ?_
          refine X_seq ?_
          refine X_reg ?_
          first | refine XR_a (op_field0 rfl rfl) rfl rfl ?_ | refine XR_a (op_fieldn rfl rfl) rfl rfl ?_
          refine XR_a (op_ld (by first | assumption | exact st.cell 0 rfl rfl | exact st.cell 1 rfl rfl | exact st.cell 2 rfl rfl | exact st.cell 3 rfl rfl) rfl rfl rfl) rfl rfl ?_
          by_cases hcl : cl = true
          · subst hcl
            refine XR_nil ?_
            refine X_then rfl ?_
            refine X_seq ?_
            refine X_reg ?_
            first | refine XR_a (op_field0 rfl rfl) rfl rfl ?_ | refine XR_a (op_fieldn rfl rfl) rfl rfl ?_
            refine XR_a (op_ld (by first | assumption | exact st.cell 0 rfl rfl | exact st.cell 1 rfl rfl | exact st.cell 2 rfl rfl | exact st.cell 3 rfl rfl) rfl rfl rfl) rfl rfl ?_
            refine XR_a (op_geq rfl rfl) rfl rfl ?_
            refine XR_a (op_move rfl) rfl rfl ?_
            refine XR_if 26 rfl (fun h => ?_) (fun h => ?_)
            · first | refine XR_a (op_field0 rfl rfl) rfl rfl ?_ | refine XR_a (op_fieldn rfl rfl) rfl rfl ?_
              refine XR_a (op_ld (by first | assumption | exact st.cell 0 rfl rfl | exact st.cell 1 rfl rfl | exact st.cell 2 rfl rfl | exact st.cell 3 rfl rfl) rfl rfl rfl) rfl rfl ?_
              refine XR_a (op_leq rfl rfl) rfl rfl ?_
              refine XR_a (op_pick_t rfl rfl) rfl rfl ?_
              refine XR_a (op_move rfl) rfl rfl ?_
              refine XR_if 31 rfl (fun h => ?_) (fun h => ?_)
              · first | refine XR_a (op_field0 rfl rfl) rfl rfl ?_ | refine XR_a (op_fieldn rfl rfl) rfl rfl ?_
                refine XR_a (op_ld (by first | assumption | exact st.cell 0 rfl rfl | exact st.cell 1 rfl rfl | exact st.cell 2 rfl rfl | exact st.cell 3 rfl rfl) rfl rfl rfl) rfl rfl ?_
                first | refine XR_a (op_field0 rfl rfl) rfl rfl ?_ | refine XR_a (op_fieldn rfl rfl) rfl rfl ?_
                refine XR_a (op_ld (by first | assumption | exact st.cell 0 rfl rfl | exact st.cell 1 rfl rfl | exact st.cell 2 rfl rfl | exact st.cell 3 rfl rfl) rfl rfl rfl) rfl rfl ?_
                refine XR_a (op_addI rfl rfl (by simp only [inK]; omega)) rfl rfl ?_
                refine XR_a (op_leq rfl rfl) rfl rfl ?_
                refine XR_a (op_pick_t rfl rfl) rfl rfl ?_
                refine XR_a (op_assign rfl) rfl rfl ?_
                refine XR_nil ?_
                refine X_ret (.cons (.tmp rfl) .nil) ?_
                refine ⟨congrArg Value.bool (decide_eq_decide.2 ⟨fun hh => ⟨by omega, by omega, by omega, by omega, by simp; omega⟩, fun hh => by have h5 := hh.2.2.2.2; simp at h5; omega⟩), st.low⟩
              · refine XR_no rfl rfl ?_
                refine XR_no rfl rfl ?_
                refine XR_no rfl rfl ?_
                refine XR_no rfl rfl ?_
                refine XR_no rfl rfl ?_
                refine XR_no rfl rfl ?_
                refine XR_a (op_pick_f rfl rfl) rfl rfl ?_
                refine XR_a (op_assign rfl) rfl rfl ?_
                refine XR_nil ?_
                refine X_ret (.cons (.tmp rfl) .nil) ?_
                exact ⟨congrArg Value.bool (decide_eq_false (by rintro ⟨_, _, _, _, h5⟩; simp at h5; omega)).symm, st.low⟩
            · refine XR_no rfl rfl ?_
              refine XR_no rfl rfl ?_
              refine XR_no rfl rfl ?_
              refine XR_a (op_pick_f rfl rfl) rfl rfl ?_
              refine XR_a (op_move rfl) rfl rfl ?_
              refine XR_no rfl rfl ?_
              refine XR_no rfl rfl ?_
              refine XR_no rfl rfl ?_
              refine XR_no rfl rfl ?_
              refine XR_no rfl rfl ?_
              refine XR_no rfl rfl ?_
              refine XR_a (op_pick_f rfl rfl) rfl rfl ?_
              refine XR_a (op_assign rfl) rfl rfl ?_
              refine XR_nil ?_
              refine X_ret (.cons (.tmp rfl) .nil) ?_
              exact ⟨congrArg Value.bool (decide_eq_false (by rintro ⟨_, _, _, _, h5⟩; simp at h5; omega)).symm, st.low⟩
          · obtain rfl : cl = false := by simpa using hcl
            refine XR_nil ?_
            refine X_else rfl ?_
            refine X_skip ?_
            refine X_seq ?_
            refine X_reg ?_
            first | refine XR_a (op_field0 rfl rfl) rfl rfl ?_ | refine XR_a (op_fieldn rfl rfl) rfl rfl ?_
            refine XR_a (op_ld (by first | assumption | exact st.cell 0 rfl rfl | exact st.cell 1 rfl rfl | exact st.cell 2 rfl rfl | exact st.cell 3 rfl rfl) rfl rfl rfl) rfl rfl ?_
            refine XR_a (op_eql rfl rfl) rfl rfl ?_
            refine XR_a (op_assign rfl) rfl rfl ?_
            refine XR_nil ?_
            refine X_ret (.cons (.tmp rfl) .nil) ?_
            refine ⟨congrArg Value.bool (decide_eq_decide.2 ⟨fun hh => ⟨by omega, by omega, by omega, by omega, by simpa using hh⟩, fun hh => by simpa using hh.2.2.2.2⟩), st.low⟩

theorem bits_and1 (a : Int) (ha : inK .i64 a) : bitsOp .and .i64 a 1 = a % 2 := by
  simp only [inK] at ha
  have key : (BitVec.ofInt 64 a &&& BitVec.ofInt 64 1).toNat = (a % 2).toNat := by
    rw [BitVec.toNat_and, BitVec.toNat_ofInt, BitVec.toNat_ofInt, show ((1 : Int) % ((2 ^ 64 : Nat) : Int)).toNat = 1 by decide, Nat.and_one_is_mod, show ((2 ^ 64 : Nat) : Int) = 18446744073709551616 from rfl]
    omega
  show IntKind.i64.wrap ((BitVec.ofInt 64 a &&& BitVec.ofInt 64 1).toNat : Int) = a % 2
  rw [key]
  rcases (by omega : a % 2 = 0 ∨ a % 2 = 1) with h | h <;> rw [h] <;> rfl

theorem splace_spec {a : Int} (ha : inK .i64 a) (h0 : Heap) : Ret Try.prog 41 [.int .i64 a] h0 fun v h' => v = .int .i64 (if a % 2 = 1 then 512 else 0) ∧ h0 = h' := by
  refine ret_of_X Try.func41 rfl rfl fun w0 hw0 => ?_
  simp only [argE, Nat.zero_add, Nat.reduceAdd]
  refine X_seq ?_
  refine X_reg ?_
  refine XR_a (op_assign rfl) rfl rfl ?_
  refine XR_nil ?_
  refine X_seq ?_
  refine X_seq ?_
  refine X_reg ?_
  refine XR_a (op_move rfl) rfl rfl ?_
  refine XR_a (op_and rfl rfl) rfl rfl ?_
  rw [bits_and1 a ha]
  refine XR_a (op_eql rfl rfl) rfl rfl ?_
  refine XR_nil ?_
  refine X_if rfl (fun h => ?_) (fun h => ?_)
  · refine X_seq ?_
    refine X_reg ?_
    refine XR_a (op_assign rfl) rfl rfl ?_
    refine XR_nil ?_
    refine X_ret (.cons (.tmp rfl) .nil) ?_
    rw [if_pos h]; exact ⟨rfl, rfl⟩
  · refine X_skip ?_
    refine X_seq ?_
    refine X_reg ?_
    refine XR_a (op_assign rfl) rfl rfl ?_
    refine XR_nil ?_
    refine X_ret (.cons (.tmp rfl) .nil) ?_
    rw [if_neg h]; exact ⟨rfl, rfl⟩

theorem sput_bad {seq en dir : Int} {cl : Bool} {v : Value} {h0 : Heap} (hs : ¬ (Slt.mk seq en dir cl).right) : Ret Try.prog 38 [v, .agg #[.int .i64 seq, .int .i64 en, .int .i64 dir, .bool cl]] h0 fun v h' => v = retVal [.slice none 0 0, .int .i64 1] ∧ Ext h0 h' := by
  refine ret_of_X Try.func38 rfl rfl fun w0 hw0 => ?_
  simp only [argE, Nat.zero_add, Nat.reduceAdd]
  have st := St.start h0
  refine X_seq ?_
  refine X_reg ?_
  refine XR_wa (opl_bx rfl rfl) rfl rfl rfl ?_
  rintro _ hp ⟨p, rfl, hnew⟩
  have st := st.new hnew
  refine XR_a (op_assign rfl) rfl rfl ?_
  refine XR_a (op_assign rfl) rfl rfl ?_
  refine XR_nil ?_
  refine X_seq ?_
  refine X_seq ?_
  refine X_reg ?_
  refine XR_a (op_ldA (st.cells 0 rfl) rfl rfl rfl rfl) rfl rfl ?_
  refine XR_wa (opl_call (sright_spec _ _ _ _ _) rfl (by kernel_rfl)) rfl rfl rfl ?_
  rintro _ hp ⟨rfl, hx⟩
  replace st := st.ext hx
  rw [decide_eq_false hs]
  refine XR_a (op_not rfl) rfl rfl ?_
  refine XR_nil ?_
  refine X_then rfl ?_
  refine X_seq ?_
  refine X_reg ?_
  refine XR_a (op_assign rfl) rfl rfl ?_
  refine XR_a (op_assign rfl) rfl rfl ?_
  refine XR_nil ?_
  refine X_ret (.cons (.tmp rfl) (.cons (.tmp rfl) .nil)) ?_
  exact ⟨rfl, st.low⟩

theorem sput_ok {tp a b c : Nat} {cl : Bool} {h0 : Heap} (ht : Tab h0 tp) (hs : (Slt.mk a b c cl).right) : Ret Try.prog 38 [.pointer (some ⟨tp, 0, none⟩), .agg #[.int .i64 (a : Int), .int .i64 (b : Int), .int .i64 (c : Int), .bool cl]] h0 fun v h' =>
    ∃ v1, v = retVal [v1, .int .i64 0] ∧ St h0.size h0 h' [row 5 1 v1 ((Slt.mk a b c cl).bytes.map byteV)] := by
  have hs' := hs
  simp only [Slt.right] at hs'
  have ha : a < 4294967296 := by omega
  have hb : b < 4294967296 := by omega
  have hc : c < 4294967296 := by obtain ⟨_, _, _, _, h5⟩ := hs'; split at h5 <;> omega
  refine ret_of_X Try.func38 rfl rfl fun w0 hw0 => ?_
  simp only [argE, Nat.zero_add, Nat.reduceAdd]
  have st := St.start h0
  refine X_seq ?_
  refine X_reg ?_
  refine XR_wa (opl_bx rfl rfl) rfl rfl rfl ?_
  rintro _ hp ⟨p, rfl, hnew⟩
  have st := st.new hnew
  refine XR_a (op_assign rfl) rfl rfl ?_
  refine XR_a (op_assign rfl) rfl rfl ?_
  refine XR_nil ?_
  refine X_seq ?_
  refine X_seq ?_
  refine X_reg ?_
  refine XR_a (op_ldA (st.cells 0 rfl) rfl rfl rfl rfl) rfl rfl ?_
  refine XR_wa (opl_call (sright_spec _ _ _ _ _) rfl (by kernel_rfl)) rfl rfl rfl ?_
  rintro _ hp ⟨rfl, hx⟩
  replace st := st.ext hx
  rw [decide_eq_true hs]
  refine XR_a (op_not rfl) rfl rfl ?_
  refine XR_nil ?_
  refine X_else rfl ?_
  refine X_skip ?_
  refine X_seq ?_
  refine X_reg ?_
  refine XR_wa (opl_lits (([83, 76, 79, 84] : List UInt8).map byteV) rfl rfl rfl rfl (by kernel_rfl) rfl) rfl rfl rfl ?_
  rintro v hp hnew
  replace st := st.new hnew
  obtain ⟨A, n, k, rfl, hlen, _, _, hrd⟩ := st.row 0 rfl
  obtain ⟨gb, o, rfl, _⟩ := hrd.at_ (by decide)
  refine XR_wa (opl_bytesLit st 0 rfl rfl rfl) rfl rfl rfl ?_
  rintro _ hp ⟨rfl, st⟩
  refine XR_a (op_assign rfl) rfl rfl ?_
  refine XR_nil ?_
  refine X_seq ?_
  refine X_seq ?_
  refine X_reg ?_
  first | refine XR_a (op_field0 rfl rfl) rfl rfl ?_ | refine XR_a (op_fieldn rfl rfl) rfl rfl ?_
  refine XR_a (op_ld (by first | assumption | exact st.cell 0 rfl rfl | exact st.cell 1 rfl rfl | exact st.cell 2 rfl rfl | exact st.cell 3 rfl rfl) rfl rfl rfl) rfl rfl ?_
  first | refine XR_a (op_field0 rfl rfl) rfl rfl ?_ | refine XR_a (op_fieldn rfl rfl) rfl rfl ?_
  refine XR_a (op_ld (by first | assumption | exact st.cell 0 rfl rfl | exact st.cell 1 rfl rfl | exact st.cell 2 rfl rfl | exact st.cell 3 rfl rfl) rfl rfl rfl) rfl rfl ?_
  first | refine XR_a (op_field0 rfl rfl) rfl rfl ?_ | refine XR_a (op_fieldn rfl rfl) rfl rfl ?_
  refine XR_a (op_ld (by first | assumption | exact st.cell 0 rfl rfl | exact st.cell 1 rfl rfl | exact st.cell 2 rfl rfl | exact st.cell 3 rfl rfl) rfl rfl rfl) rfl rfl ?_
  refine XR_a (op_build (ps := [(0, .int .i64 (a : Int)), (1, .int .i64 (b : Int)), (2, .int .i64 (c : Int))]) (cs := #[.int .i64 (a : Int), .int .i64 (b : Int), .int .i64 (c : Int)]) rfl rfl) rfl rfl ?_
  refine XR_a (op_move rfl) rfl rfl ?_
  refine XR_nil ?_
  refine X_block ?_
  refine X_loop (fun s => 3 - s.1) (fun s => [(0, .pointer (some ⟨tp, 0, none⟩)), (3, .pointer (some ⟨p, 0, none⟩)), (6, s.2), (20, .agg #[.int .i64 (a : Int), .int .i64 (b : Int), .int .i64 (c : Int)]), (21, .int .i64 (s.1 : Int))])
    (fun (s : Nat × Value) hp => St h0.size h0 hp [row 5 1 s.2 ((([83, 76, 79, 84] : List UInt8) ++ (([a, b, c] : List Nat).take s.1).flatMap (leB 4)).map byteV), pt p 72 [.int .i64 (a : Int), .int .i64 (b : Int), .int .i64 (c : Int), .bool cl]] ∧ s.1 ≤ 3)
    (0, _) (.cons rfl (.cons rfl (.cons rfl (.cons rfl (.cons rfl (.nil _)))))) ⟨st, by simp⟩ ?_
  clear st hrd hlen hnew hx
  rintro ⟨i, v⟩ hp ⟨st, hi⟩
  simp only at st hi ⊢
  refine X_seq ?_
  refine X_reg ?_
  refine XR_a (op_lss rfl rfl) rfl rfl ?_
  refine XR_nil ?_
  refine X_seq ?_
  refine X_if rfl (fun h => ?_) (fun h => ?_)
  · have h3 : i = 0 ∨ i = 1 ∨ i = 2 := by omega
    obtain ⟨q, hq, hql, hix, htk⟩ : ∃ q : Nat, q < 4294967296 ∧ (([83, 76, 79, 84] : List UInt8) ++ (([a, b, c] : List Nat).take i).flatMap (leB 4)).length ≤ 100 ∧ (#[.int .i64 (a : Int), .int .i64 (b : Int), .int .i64 (c : Int)] : Array Value)[i]? = some (.int .i64 (q : Int)) ∧ (([a, b, c] : List Nat).take (i + 1)).flatMap (leB 4) = (([a, b, c] : List Nat).take i).flatMap (leB 4) ++ leB 4 q := by
      rcases h3 with rfl | rfl | rfl
      · exact ⟨a, ha, by simp, rfl, by simp⟩
      · exact ⟨b, hb, by simp [leB_length], rfl, by simp⟩
      · exact ⟨c, hc, by simp [leB_length], rfl, by simp⟩
    refine X_skip ?_
    refine X_seq ?_
    refine X_block ?_
    refine X_seq ?_
    refine X_reg ?_
    refine XR_a (op_indexV rfl rfl rfl (by omega) hix) rfl rfl ?_
    refine XR_a (op_assign rfl) rfl rfl ?_
    refine XR_nil ?_
    refine X_reg ?_
    refine XR_a (op_move rfl) rfl rfl ?_
    refine XR_a (op_move rfl) rfl rfl ?_
    first | refine XR_a (op_convI rfl rfl (by simp only [inK]; omega)) rfl rfl ?_ | refine XR_a (op_convU rfl rfl rfl) rfl rfl ?_ | refine XR_a (op_conv rfl rfl) rfl rfl ?_
    refine XR_wa (opl_call (fput_spec (n := q) st.here hq (by omega)) rfl (by kernel_rfl)) rfl rfl rfl ?_
    rintro v hp st2
    replace st := st.trans st2
    rw [show wid 4 = 4 by rfl, List.append_assoc, ← htk] at st
    refine XR_a (op_assign rfl) rfl rfl ?_
    refine XR_nil ?_
    refine X_blk ?_
    refine X_reg ?_
    first | refine XR_a (op_addN (n := 1) rfl rfl (by simp only [inK]; omega)) rfl rfl ?_ | refine XR_a (op_addI rfl rfl (by simp only [inK]; omega)) rfl rfl ?_ | refine XR_a (op_add rfl rfl) rfl rfl ?_
    refine XR_a (op_move rfl) rfl rfl ?_
    refine XR_nil ?_
    exact X_again (i + 1, v) (.cons rfl (.cons rfl (.cons rfl (.cons rfl (.cons rfl (.nil _)))))) ⟨st, by simp only; omega⟩ (by simp only; omega)
  · obtain rfl : i = 3 := by omega
    have e12 : (([a, b, c] : List Nat).take 3).flatMap (leB 4) = leB 4 a ++ leB 4 b ++ leB 4 c := by simp
    rw [e12, ← List.append_assoc, ← List.append_assoc] at st
    refine X_exit rfl ?_
    refine X_seq ?_
    refine X_seq ?_
    refine X_reg ?_
    first | refine XR_a (op_field0 rfl rfl) rfl rfl ?_ | refine XR_a (op_fieldn rfl rfl) rfl rfl ?_
    refine XR_a (op_ld (by first | assumption | exact st.cell 0 rfl rfl | exact st.cell 1 rfl rfl | exact st.cell 2 rfl rfl | exact st.cell 3 rfl rfl) rfl rfl rfl) rfl rfl ?_
    by_cases hcl : cl = true
    · subst hcl
      refine XR_nil ?_
      refine X_then rfl ?_
      refine X_reg ?_
      refine XR_a (op_move rfl) rfl rfl ?_
      refine XR_wa (opl_var1 rfl rfl rfl) rfl rfl rfl ?_
      rintro _ hp ⟨A, rfl, hx, hrd⟩
      have st := st.ext hx
      refine XR_wa (opl_append st 0 rfl (hrd) (rfl) (by simp [Value.one, byteV]) (by simp [leB_length]) rfl rfl rfl rfl rfl rfl rfl) rfl rfl rfl fun v hp st => ?_
      simp only [List.set_cons_zero, List.set_cons_succ] at st
      have e17 : (([83, 76, 79, 84] : List UInt8) ++ leB 4 a ++ leB 4 b ++ leB 4 c).map byteV ++ [.int .u8 1] = (Slt.mk a b c true).head.map byteV := by simp [Slt.head, byteV]
      rw [e17] at st
      generalize hgen : Slt.mk (a : Int) b c true = s at *
      refine XR_a (op_assign rfl) rfl rfl ?_
      refine XR_nil ?_
      refine X_seq ?_
      have hh := s.head_length
      have hsl := sumN_lt s.head
      obtain ⟨A5, n5, c5, rfl, hlen5, _, _, hrd5⟩ := st.row 0 rfl
      refine X_reg ?_
      refine XR_a (op_move rfl) rfl rfl ?_
      refine XR_a (op_move rfl) rfl rfl ?_
      refine XR_a (op_move rfl) rfl rfl ?_
      refine XR_wa (opl_call (sum_spec (ht.ext st.low) hrd5 (by simpa using hlen5) (by simp at hlen5; omega)) rfl (by kernel_rfl)) rfl rfl rfl ?_
      rintro _ _ ⟨rfl, rfl⟩
      refine XR_wa (opl_call (fput_spec (n := sumN s.head) st.here hsl (by omega)) rfl (by kernel_rfl)) rfl rfl rfl ?_
      rintro v hp st2
      replace st := st.trans st2
      rw [show wid 4 = 4 by rfl] at st
      obtain ⟨A6, n6, c6, rfl, hlen6, _, _, _⟩ := st.row 0 rfl
      obtain rfl : n6 = 21 := by simp [leB_length, hh] at hlen6; omega
      refine XR_a (op_assign rfl) rfl rfl ?_
      refine XR_nil ?_
      refine X_seq ?_
      refine X_reg ?_
      refine XR_a (op_move rfl) rfl rfl ?_
      refine XR_a (op_move rfl) rfl rfl ?_
      refine XR_a (op_len rfl rfl rfl) rfl rfl ?_
      refine XR_a (op_subN (m := 512) (n := 21) rfl rfl (by omega) (by simp only [inK]; omega)) rfl rfl ?_
      refine XR_wa (opl_appendZ (m := 491) st 0 rfl (by simp [hh]; omega) (by omega) rfl (by simp [leB_length, hh]) rfl rfl rfl rfl rfl rfl) rfl rfl rfl fun v hp st => ?_
      simp only [List.set_cons_zero, List.set_cons_succ] at st
      refine XR_a (op_assign rfl) rfl rfl ?_
      refine XR_a (op_assign rfl) rfl rfl ?_
      refine XR_nil ?_
      refine X_ret (.cons (.tmp rfl) (.cons (.tmp rfl) .nil)) ?_
      refine ⟨_, rfl, ?_⟩
      have e : (s.head ++ leB 4 (sumN s.head)).map byteV ++ List.replicate 491 (.int .u8 0) = s.bytes.map byteV := by
        simp only [Slt.bytes, List.map_append, List.map_replicate]; rfl
      rw [e] at st
      exact st.only
    · obtain rfl : cl = false := by simpa using hcl
      refine XR_nil ?_
      refine X_else rfl ?_
      refine X_reg ?_
      refine XR_a (op_move rfl) rfl rfl ?_
      refine XR_wa (opl_var1 rfl rfl rfl) rfl rfl rfl ?_
      rintro _ hp ⟨A, rfl, hx, hrd⟩
      have st := st.ext hx
      refine XR_wa (opl_append st 0 rfl (hrd) (rfl) (by simp [Value.one, byteV]) (by simp [leB_length]) rfl rfl rfl rfl rfl rfl rfl) rfl rfl rfl fun v hp st => ?_
      simp only [List.set_cons_zero, List.set_cons_succ] at st
      have e17 : (([83, 76, 79, 84] : List UInt8) ++ leB 4 a ++ leB 4 b ++ leB 4 c).map byteV ++ [.int .u8 0] = (Slt.mk a b c false).head.map byteV := by simp [Slt.head, byteV]
      rw [e17] at st
      generalize hgen : Slt.mk (a : Int) b c false = s at *
      refine XR_a (op_assign rfl) rfl rfl ?_
      refine XR_nil ?_
      refine X_seq ?_
      have hh := s.head_length
      have hsl := sumN_lt s.head
      obtain ⟨A5, n5, c5, rfl, hlen5, _, _, hrd5⟩ := st.row 0 rfl
      refine X_reg ?_
      refine XR_a (op_move rfl) rfl rfl ?_
      refine XR_a (op_move rfl) rfl rfl ?_
      refine XR_a (op_move rfl) rfl rfl ?_
      refine XR_wa (opl_call (sum_spec (ht.ext st.low) hrd5 (by simpa using hlen5) (by simp at hlen5; omega)) rfl (by kernel_rfl)) rfl rfl rfl ?_
      rintro _ _ ⟨rfl, rfl⟩
      refine XR_wa (opl_call (fput_spec (n := sumN s.head) st.here hsl (by omega)) rfl (by kernel_rfl)) rfl rfl rfl ?_
      rintro v hp st2
      replace st := st.trans st2
      rw [show wid 4 = 4 by rfl] at st
      obtain ⟨A6, n6, c6, rfl, hlen6, _, _, _⟩ := st.row 0 rfl
      obtain rfl : n6 = 21 := by simp [leB_length, hh] at hlen6; omega
      refine XR_a (op_assign rfl) rfl rfl ?_
      refine XR_nil ?_
      refine X_seq ?_
      refine X_reg ?_
      refine XR_a (op_move rfl) rfl rfl ?_
      refine XR_a (op_move rfl) rfl rfl ?_
      refine XR_a (op_len rfl rfl rfl) rfl rfl ?_
      refine XR_a (op_subN (m := 512) (n := 21) rfl rfl (by omega) (by simp only [inK]; omega)) rfl rfl ?_
      refine XR_wa (opl_appendZ (m := 491) st 0 rfl (by simp [hh]; omega) (by omega) rfl (by simp [leB_length, hh]) rfl rfl rfl rfl rfl rfl) rfl rfl rfl fun v hp st => ?_
      simp only [List.set_cons_zero, List.set_cons_succ] at st
      refine XR_a (op_assign rfl) rfl rfl ?_
      refine XR_a (op_assign rfl) rfl rfl ?_
      refine XR_nil ?_
      refine X_ret (.cons (.tmp rfl) (.cons (.tmp rfl) .nil)) ?_
      refine ⟨_, rfl, ?_⟩
      have e : (s.head ++ leB 4 (sumN s.head)).map byteV ++ List.replicate 491 (.int .u8 0) = s.bytes.map byteV := by
        simp only [Slt.bytes, List.map_append, List.map_replicate]; rfl
      rw [e] at st
      exact st.only

@[reducible] def sltC (s : Slt) : List Value := [.int .i64 s.seq, .int .i64 s.en, .int .i64 s.dir, .bool s.cl]
theorem sltC_one (s : Slt) : ∀ u ∈ sltC s, Value.one u = true := by
  intro u hu; simp [sltC] at hu; rcases hu with rfl | rfl | rfl | rfl <;> rfl
theorem leV4_lt (l : List UInt8) (h : l.length ≤ 4) : leV l < 4294967296 :=
  Nat.lt_of_lt_of_le (leV_lt l) (Nat.le_trans (Nat.pow_le_pow_right (by omega) h) (by decide))

theorem stake_spec {tp m c : Nat} {A : Option Addr} {l : List UInt8} {h0 : Heap} (ht : Tab h0 tp) (hr : Rd h0 A (l.map byteV)) (hl : l.length = m) (hm : m ≤ 1099511627776) (hmc : m ≤ c) :
    Ret Try.prog 45 [.pointer (some ⟨tp, 0, none⟩), .slice A m c] h0 fun v h' => v = retVal [.agg (sltC (slotTake l).1).toArray, .int .i64 (slotTake l).2] ∧ Ext h0 h' := by
  refine ret_of_X Try.func45 rfl rfl fun w0 hw0 => ?_
  simp only [argE, Nat.zero_add, Nat.reduceAdd]
  have st := St.start h0
  refine X_seq ?_
  refine X_reg ?_
  refine XR_wa (opl_new rfl) rfl rfl rfl ?_
  rintro _ hp ⟨p4, rfl, hnew⟩
  replace st := st.new hnew
  refine XR_a (op_assign rfl) rfl rfl ?_
  refine XR_nil ?_
  refine X_seq ?_
  refine X_seq ?_
  refine X_reg ?_
  refine XR_a (op_move rfl) rfl rfl ?_
  refine XR_a (op_len rfl rfl rfl) rfl rfl ?_
  refine XR_a (op_neq rfl rfl) rfl rfl ?_
  refine XR_nil ?_
  refine X_if rfl (fun h => ?_) (fun h => ?_)
  · refine X_seq ?_
    refine X_reg ?_
    refine XR_a (op_build (ps := []) (cs := (sltC Slt.nil).toArray) rfl rfl) rfl rfl ?_
    refine XR_wn (opl_store_whole (us := sltC Slt.nil) st 0 rfl rfl rfl rfl rfl (sltC_one _) rfl) rfl rfl fun _ hp st => ?_
    simp only [List.set_cons_zero, List.set_cons_succ] at st
    refine XR_a (op_assign rfl) rfl rfl ?_
    refine XR_nil ?_
    refine X_ret (.cons (RV_agg (vs := sltC Slt.nil) rfl rfl rfl (st.cells 0 rfl)) (.cons (.tmp rfl) .nil)) ?_
    have e : slotTake l = (Slt.nil, 2) := by unfold slotTake; rw [if_pos (by omega)]
    rw [e]
    exact ⟨rfl, st.low⟩
  · refine X_skip ?_
    refine X_seq ?_
    refine X_reg ?_
    refine XR_a (op_move rfl) rfl rfl ?_
    refine XR_wa (opl_call (fnew_spec) rfl (by kernel_rfl)) rfl rfl rfl ?_
    rintro _ hp ⟨pr, rfl, st2⟩
    obtain rfl : m = 512 := by omega
    replace st := st.join st2
    simp only [List.cons_append, List.nil_append] at st
    refine XR_a (op_assign rfl) rfl rfl ?_
    refine XR_nil ?_
    refine X_seq ?_
    refine X_reg ?_
    refine XR_a (op_move rfl) rfl rfl ?_
    refine XR_wa (opl_call (fbytes_ok (n := 4) st.here (hr.ext st.low) hl (by omega) hmc (by omega)) rfl (by kernel_rfl)) rfl rfl rfl ?_
    rintro v hp st2
    replace st := st.trans st2
    obtain ⟨A7, n7, c7, rfl, hlen7, _, _, hrd7⟩ := st.row 1 rfl
    rw [List.drop_zero] at hrd7 hlen7 st
    refine XR_a (op_str hrd7 rfl (by simpa using hlen7) rfl rfl rfl) rfl rfl ?_
    have w4 : wid 4 = 4 := rfl
    have w1 : wid 1 = 1 := rfl
    have t4 : ∀ a, ((l.drop a).take 4).length ≤ 4 := fun a => by rw [List.length_take]; omega
    refine XR_a (op_assign rfl) rfl rfl ?_
    refine XR_nil ?_
    refine X_seq ?_
    refine X_reg ?_
    refine XR_a (op_move rfl) rfl rfl ?_
    refine XR_wa (opl_call (fnum_at 8 (n := leV ((l.drop 4).take 4)) st.here (hr.ext st.low) hl (by omega) (by omega) (getF_at (by omega)) rfl) rfl (by kernel_rfl)) rfl rfl rfl ?_
    rintro _ hp ⟨rfl, st2⟩
    replace st := st.trans st2
    have x4 := leV4_lt _ (t4 4)
    first | refine XR_a (op_convI rfl rfl (by simp only [inK]; omega)) rfl rfl ?_ | refine XR_a (op_conv rfl rfl) rfl rfl ?_
    refine XR_a (op_move rfl) rfl rfl ?_
    refine XR_wa (opl_call (fnum_at 12 (n := leV ((l.drop 8).take 4)) st.here (hr.ext st.low) hl (by omega) (by omega) (getF_at (by omega)) rfl) rfl (by kernel_rfl)) rfl rfl rfl ?_
    rintro _ hp ⟨rfl, st2⟩
    replace st := st.trans st2
    have x8 := leV4_lt _ (t4 8)
    first | refine XR_a (op_convI rfl rfl (by simp only [inK]; omega)) rfl rfl ?_ | refine XR_a (op_conv rfl rfl) rfl rfl ?_
    refine XR_a (op_move rfl) rfl rfl ?_
    refine XR_wa (opl_call (fnum_at 16 (n := leV ((l.drop 12).take 4)) st.here (hr.ext st.low) hl (by omega) (by omega) (getF_at (by omega)) rfl) rfl (by kernel_rfl)) rfl rfl rfl ?_
    rintro _ hp ⟨rfl, st2⟩
    replace st := st.trans st2
    have x12 := leV4_lt _ (t4 12)
    first | refine XR_a (op_convI rfl rfl (by simp only [inK]; omega)) rfl rfl ?_ | refine XR_a (op_conv rfl rfl) rfl rfl ?_
    refine XR_a (op_build (ps := [(0, .int .i64 (leV ((l.drop 4).take 4) : Nat)), (1, .int .i64 (leV ((l.drop 8).take 4) : Nat)), (2, .int .i64 (leV ((l.drop 12).take 4) : Nat))]) (cs := (sltC ⟨(leV ((l.drop 4).take 4) : Nat), (leV ((l.drop 8).take 4) : Nat), (leV ((l.drop 12).take 4) : Nat), false⟩).toArray) rfl rfl) rfl rfl ?_
    refine XR_wa (opl_new rfl) rfl rfl rfl ?_
    rintro _ hp ⟨p8, rfl, hnew8⟩
    replace st := st.new hnew8
    refine XR_wn (opl_store_whole (us := sltC ⟨(leV ((l.drop 4).take 4) : Nat), (leV ((l.drop 8).take 4) : Nat), (leV ((l.drop 12).take 4) : Nat), false⟩) st 0 rfl rfl rfl rfl rfl (sltC_one _) rfl) rfl rfl fun _ hp st => ?_
    simp only [List.set_cons_zero, List.set_cons_succ] at st
    replace st := st.perm (List.Perm.swap _ _ _)
    refine XR_nil ?_
    refine X_seq ?_
    refine X_reg ?_
    refine XR_a (op_move rfl) rfl rfl ?_
    refine XR_wa (opl_call (fnum_at 17 (n := leV ((l.drop 16).take 1)) st.here (hr.ext st.low) hl (by omega) (by omega) (getF_at (by omega)) rfl) rfl (by kernel_rfl)) rfl rfl rfl ?_
    rintro _ hp ⟨rfl, st2⟩
    replace st := st.trans st2
    have h16 : leV ((l.drop 16).take 1) = (l.getD 16 0).toNat := by
      rw [List.drop_eq_getElem_cons (show 16 < l.length by omega), List.take_succ_cons]
      simp [leV, List.getD, List.getElem?_eq_getElem (show 16 < l.length by omega)]
    rw [h16]
    have x16 := (l.getD 16 0).toNat_lt
    refine XR_a (op_assign rfl) rfl rfl ?_
    refine XR_nil ?_
    refine X_seq ?_
    refine X_reg ?_
    refine XR_a (op_move rfl) rfl rfl ?_
    refine XR_a (op_eql rfl rfl) rfl rfl ?_
    first | refine XR_a (op_field0 rfl rfl) rfl rfl ?_ | refine XR_a (op_fieldn rfl rfl) rfl rfl ?_
    refine XR_wn (opl_store_pt st 1 rfl rfl rfl rfl rfl (rfl)) rfl rfl fun _ hp st => ?_
    simp only [List.set_cons_zero, List.set_cons_succ] at st
    refine XR_nil ?_
    refine X_seq ?_
    refine X_reg ?_
    refine XR_a (op_move rfl) rfl rfl ?_
    refine XR_a (op_move rfl) rfl rfl ?_
    refine XR_a (op_move rfl) rfl rfl ?_
    refine XR_wa (opl_call (fat_spec (st.cell 0 rfl rfl)) rfl (by kernel_rfl)) rfl rfl rfl ?_
    rintro _ _ ⟨rfl, rfl⟩
    have hcut := (hr.ext st.low).cut 0 1 c 17 (by omega)
    rw [Nat.zero_mul, List.drop_zero, ← List.map_take] at hcut
    refine XR_a (op_slice_h rfl rfl rfl (by omega)) rfl rfl ?_
    refine XR_wa (opl_call (sum_spec (ht.ext st.low) hcut (by rw [List.length_take]; omega) (by omega)) rfl (by kernel_rfl)) rfl rfl rfl ?_
    rintro _ _ ⟨rfl, rfl⟩
    have xs := sumN_lt (l.take 17)
    refine XR_a (op_assign rfl) rfl rfl ?_
    refine XR_nil ?_
    refine X_seq ?_
    refine X_block ?_
    refine X_seq ?_
    refine X_reg ?_
    refine XR_a (op_move rfl) rfl rfl ?_
    refine XR_a (op_neqS (b := [83, 76, 79, 84]) rfl rfl) rfl rfl ?_
    refine XR_a (op_assign rfl) rfl rfl ?_
    refine XR_nil ?_
    refine X_if rfl (fun h => ?_) (fun h => ?_)
    · refine X_seq ?_
      refine X_reg ?_
      refine XR_a (op_build (ps := []) (cs := (sltC Slt.nil).toArray) rfl rfl) rfl rfl ?_
      refine XR_wn (opl_store_whole (us := sltC Slt.nil) st 3 rfl rfl rfl rfl rfl (sltC_one _) rfl) rfl rfl fun _ hp st => ?_
      simp only [List.set_cons_zero, List.set_cons_succ] at st
      refine XR_a (op_assign rfl) rfl rfl ?_
      refine XR_nil ?_
      refine X_ret (.cons (RV_agg (vs := sltC Slt.nil) rfl rfl rfl (st.cells 3 rfl)) (.cons (.tmp rfl) .nil)) ?_
      have e : slotTake l = (Slt.nil, 3) := by unfold slotTake; rw [if_neg (by omega), if_pos h]
      rw [e]
      exact ⟨rfl, st.low⟩
    · have hmark := h
      refine X_seq ?_
      refine X_reg ?_
      refine XR_a (op_move rfl) rfl rfl ?_
      refine XR_wa (opl_call (fnum_at 21 (n := leV ((l.drop 17).take 4)) st.here (hr.ext st.low) hl (by omega) (by omega) (getF_at (by omega)) rfl) rfl (by kernel_rfl)) rfl rfl rfl ?_
      rintro _ hp ⟨rfl, st2⟩
      replace st := st.trans st2
      have x17 := leV4_lt _ (t4 17)
      refine XR_a (op_move rfl) rfl rfl ?_
      refine XR_a (op_neq rfl rfl) rfl rfl ?_
      refine XR_a (op_assign rfl) rfl rfl ?_
      refine XR_nil ?_
      refine X_if rfl (fun h => ?_) (fun h => ?_)
      · refine X_seq ?_
        refine X_reg ?_
        refine XR_a (op_build (ps := []) (cs := (sltC Slt.nil).toArray) rfl rfl) rfl rfl ?_
        refine XR_wn (opl_store_whole (us := sltC Slt.nil) st 3 rfl rfl rfl rfl rfl (sltC_one _) rfl) rfl rfl fun _ hp st => ?_
        simp only [List.set_cons_zero, List.set_cons_succ] at st
        refine XR_a (op_assign rfl) rfl rfl ?_
        refine XR_nil ?_
        refine X_ret (.cons (RV_agg (vs := sltC Slt.nil) rfl rfl rfl (st.cells 3 rfl)) (.cons (.tmp rfl) .nil)) ?_
        have e : slotTake l = (Slt.nil, 4) := by unfold slotTake; rw [if_neg (by omega), if_neg hmark, if_pos (by omega)]
        rw [e]
        exact ⟨rfl, st.low⟩
      · have hsum : ¬ leV ((l.drop 17).take 4) ≠ sumN (l.take 17) := by omega
        have hbool : decide (((l.getD 16 0).toNat : Int) = 1) = ((l.getD 16 0).toNat == 1) := Bool.eq_iff_iff.2 (by simp; omega)
        rw [hbool] at st
        generalize hS : Slt.mk (leV ((l.drop 4).take 4) : Nat) (leV ((l.drop 8).take 4) : Nat) (leV ((l.drop 12).take 4) : Nat) ((l.getD 16 0).toNat == 1) = S at *
        have hst : slotTake l = if 1 < (l.getD 16 0).toNat ∨ l.drop 21 ≠ List.replicate 491 0 ∨ ¬ S.right then (Slt.nil, 3) else (S, 0) := by
          unfold slotTake; rw [if_neg (by omega), if_neg hmark, if_neg hsum, hS]
        refine X_seq ?_
        refine X_draw_in (butAt [(5, .grow), (9, .grow), (16, .grow)]) [0, 1, 2, 3, 4, 8, 5, 6, 7, 9, 10, 11, 12, 13, 14, 15, 16, 17, 18, 19] (by kernel_rfl) (by kernel_rfl) rfl ?_
        refine XR_a (op_move rfl) rfl rfl ?_
        refine XR_a (op_gtr rfl rfl) rfl rfl ?_
        refine XR_a (op_move rfl) rfl rfl ?_
        refine XR_if 54 rfl (fun h => ?_) (fun h => ?_)
        · refine XR_no rfl rfl ?_
          refine XR_no rfl rfl ?_
          refine XR_no rfl rfl ?_
          refine XR_no rfl rfl ?_
          refine XR_no rfl rfl ?_
          refine XR_no rfl rfl ?_
          refine XR_no rfl rfl ?_
          refine XR_no rfl rfl ?_
          refine XR_no rfl rfl ?_
          refine XR_no rfl rfl ?_
          refine XR_a (op_pick_t rfl rfl) rfl rfl ?_
          refine XR_a (op_move rfl) rfl rfl ?_
          refine XR_no rfl rfl ?_
          refine XR_no rfl rfl ?_
          refine XR_no rfl rfl ?_
          refine XR_a (op_pick_t rfl rfl) rfl rfl ?_
          refine XR_a (op_assign rfl) rfl rfl ?_
          refine XR_nil ?_
          refine X_then rfl ?_
          refine X_seq ?_
          refine X_reg ?_
          refine XR_a (op_build (ps := []) (cs := (sltC Slt.nil).toArray) rfl rfl) rfl rfl ?_
          refine XR_wn (opl_store_whole (us := sltC Slt.nil) st 3 rfl rfl rfl rfl rfl (sltC_one _) rfl) rfl rfl fun _ hp st => ?_
          simp only [List.set_cons_zero, List.set_cons_succ] at st
          refine XR_a (op_assign rfl) rfl rfl ?_
          refine XR_nil ?_
          refine X_ret (.cons (RV_agg (vs := sltC Slt.nil) rfl rfl rfl (st.cells 3 rfl)) (.cons (.tmp rfl) .nil)) ?_
          rw [hst, if_pos (.inl (by omega))]
          exact ⟨rfl, st.low⟩
        · refine XR_a (op_move rfl) rfl rfl ?_
          refine XR_a (op_move rfl) rfl rfl ?_
          refine XR_a (op_move rfl) rfl rfl ?_
          refine XR_ga (opl_call (fat_spec (st.cell 0 rfl rfl)) rfl (by kernel_rfl)) rfl rfl rfl (fun _ _ h => h.2 ▸ Low.refl _ _) ?_
          rintro _ _ ⟨rfl, rfl⟩
          refine XR_a (op_slice_l rfl rfl rfl (by omega) (by omega)) rfl rfl ?_
          have hcut2 := (hr.ext st.low).cut 21 1 c 491 (by intro hh; simp; omega)
          rw [Nat.mul_one, ← List.map_drop, ← List.map_take, List.take_of_length_le (i := 491) (by rw [List.length_drop]; omega)] at hcut2
          refine XR_a (op_str hcut2 rfl (by rw [List.length_drop]; omega) rfl rfl rfl) rfl rfl ?_
          refine XR_ga (opl_call (fleft_spec (st.cell 0 rfl rfl) (st.cell 0 rfl rfl) (by omega) (by omega)) rfl (by kernel_rfl)) rfl rfl rfl (fun _ _ h => h.2 ▸ Low.refl _ _) ?_
          rintro _ _ ⟨rfl, rfl⟩
          refine XR_ga (opl_mk (by omega) rfl rfl rfl) rfl rfl rfl (fun _ _ e => e.1) ?_
          rintro v hp hnew
          have st := st.new hnew
          obtain ⟨A9, n9, c9, rfl, hlen9, _, _, hrd9⟩ := st.row 0 rfl
          rw [show List.replicate (512 - 21) (Value.int IntKind.u8 0) = (List.replicate 491 (0 : UInt8)).map byteV by rw [List.map_replicate]; rfl] at hrd9
          refine XR_a (op_str hrd9 rfl (by simp only [List.length_replicate] at hlen9 ⊢; omega) rfl rfl rfl) rfl rfl ?_
          refine XR_a (op_neqS rfl rfl) rfl rfl ?_
          refine XR_a (op_pick_f rfl rfl) rfl rfl ?_
          refine XR_a (op_move rfl) rfl rfl ?_
          refine XR_if 66 rfl (fun h => ?_) (fun h => ?_)
          · refine XR_no rfl rfl ?_
            refine XR_no rfl rfl ?_
            refine XR_no rfl rfl ?_
            refine XR_a (op_pick_t rfl rfl) rfl rfl ?_
            refine XR_a (op_assign rfl) rfl rfl ?_
            refine XR_nil ?_
            refine X_then rfl ?_
            refine X_seq ?_
            refine X_reg ?_
            refine XR_a (op_build (ps := []) (cs := (sltC Slt.nil).toArray) rfl rfl) rfl rfl ?_
            refine XR_wn (opl_store_whole (us := sltC Slt.nil) st 4 rfl rfl rfl rfl rfl (sltC_one _) rfl) rfl rfl fun _ hp st => ?_
            simp only [List.set_cons_zero, List.set_cons_succ] at st
            refine XR_a (op_assign rfl) rfl rfl ?_
            refine XR_nil ?_
            refine X_ret (.cons (RV_agg (vs := sltC Slt.nil) rfl rfl rfl (st.cells 4 rfl)) (.cons (.tmp rfl) .nil)) ?_
            rw [hst, if_pos (.inr (.inl h))]
            exact ⟨rfl, st.low⟩
          · refine XR_a (op_ldA (st.cells 2 rfl) rfl rfl rfl rfl) rfl rfl ?_
            refine XR_ga (opl_call (sright_spec _ _ _ _ _) rfl (by kernel_rfl)) rfl rfl rfl (fun _ _ h => h.2) ?_
            rintro _ hp ⟨rfl, hx⟩
            replace st := st.ext hx
            rw [hS]
            first | refine XR_a (op_notd rfl) rfl rfl ?_ | refine XR_a (op_not rfl) rfl rfl ?_
            refine XR_a (op_pick_f rfl rfl) rfl rfl ?_
            refine XR_a (op_assign rfl) rfl rfl ?_
            refine XR_nil ?_
            refine X_if rfl (fun h => ?_) (fun h => ?_)
            · refine X_seq ?_
              refine X_reg ?_
              refine XR_a (op_build (ps := []) (cs := (sltC Slt.nil).toArray) rfl rfl) rfl rfl ?_
              refine XR_wn (opl_store_whole (us := sltC Slt.nil) st 4 rfl rfl rfl rfl rfl (sltC_one _) rfl) rfl rfl fun _ hp st => ?_
              simp only [List.set_cons_zero, List.set_cons_succ] at st
              refine XR_a (op_assign rfl) rfl rfl ?_
              refine XR_nil ?_
              refine X_ret (.cons (RV_agg (vs := sltC Slt.nil) rfl rfl rfl (st.cells 4 rfl)) (.cons (.tmp rfl) .nil)) ?_
              rw [hst, if_pos (.inr (.inr h))]
              exact ⟨rfl, st.low⟩
            · refine X_skip ?_
              refine X_blk ?_
              refine X_seq ?_
              refine X_reg ?_
              have hcs : [Value.int IntKind.i64 (leV ((l.drop 4).take 4) : Nat), .int .i64 (leV ((l.drop 8).take 4) : Nat), .int .i64 (leV ((l.drop 12).take 4) : Nat), .bool ((l.getD 16 0).toNat == 1)] = sltC S := by rw [← hS]
              rw [hcs] at st
              refine XR_a (op_ldA (st.cells 2 rfl) rfl rfl rfl rfl) rfl rfl ?_
              refine XR_wn (opl_store_whole (us := sltC S) st 4 rfl rfl rfl rfl rfl (sltC_one _) rfl) rfl rfl fun _ hp st => ?_
              simp only [List.set_cons_zero, List.set_cons_succ] at st
              refine XR_a (op_assign rfl) rfl rfl ?_
              refine XR_nil ?_
              refine X_ret (.cons (RV_agg (vs := sltC S) rfl rfl rfl (st.cells 4 rfl)) (.cons (.tmp rfl) .nil)) ?_
              rename_i hz _
              rw [hst, if_neg (by
                rintro (h1 | h1 | h1)
                · omega
                · contradiction
                · contradiction)]
              exact ⟨rfl, st.low⟩
end Go.Bn
