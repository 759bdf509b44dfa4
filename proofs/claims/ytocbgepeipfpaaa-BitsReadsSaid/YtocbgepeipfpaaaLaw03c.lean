/- The law BitsReads comes to true. -/
import Derived.Test.YtocbgepeipfpaaaLaw03b
set_option linter.unusedVariables false
set_option linter.unusedSimpArgs false
set_option maxHeartbeats 4000000
namespace Go.Bn
open Go Proofs

theorem bitsReads_ret {m c m2 c2 : Nat} {A A2 : Option Addr} {l : List UInt8} {ps : List (Int × Int)} {h0 : Heap} (hr : Rd h0 A (l.map byteV)) (hl : l.length = m) (hr2 : Rd h0 A2 (ps.flatMap pairII)) (hl2 : ps.length = m2) :
    Ret Try.prog 15 [.slice A m c, .slice A2 m2 c2] h0 fun v h' => v = .bool true ∧ Ext h0 h' := by
  refine ret_of_X Try.func15 rfl rfl fun w0 hw0 => ?_
  simp only [argE, Nat.zero_add, Nat.reduceAdd]
  refine X_seq ?_
  refine X_reg ?_
  refine XR_a (op_assign rfl) rfl rfl ?_
  refine XR_nil ?_
  refine X_seq ?_
  refine X_seq ?_
  refine X_reg ?_
  refine XR_a (op_move rfl) rfl rfl ?_
  refine XR_a (op_len rfl rfl rfl) rfl rfl ?_
  refine XR_a (op_gtr rfl rfl) rfl rfl ?_
  refine XR_a (op_move rfl) rfl rfl ?_
  refine XR_if 20 rfl (fun h => ?_) (fun h => ?_)
  · refine XR_no rfl rfl ?_
    refine XR_no rfl rfl ?_
    refine XR_no rfl rfl ?_
    refine XR_a (op_pick_t rfl rfl) rfl rfl ?_
    refine XR_nil ?_
    refine X_then rfl ?_
    refine X_seq ?_
    refine X_reg ?_
    refine XR_wa (opl_call (lives03 _) rfl (by kernel_rfl)) rfl rfl rfl ?_
    rintro _ hp ⟨rfl, hx⟩
    refine XR_a (op_assign rfl) rfl rfl ?_
    refine XR_nil ?_
    refine X_ret (.cons (.tmp rfl) .nil) ?_
    exact ⟨rfl, hx⟩
  · refine XR_a (op_move rfl) rfl rfl ?_
    refine XR_a (op_len rfl rfl rfl) rfl rfl ?_
    refine XR_a (op_gtr rfl rfl) rfl rfl ?_
    refine XR_a (op_pick_f rfl rfl) rfl rfl ?_
    refine XR_nil ?_
    refine X_if rfl (fun h => ?_) (fun h => ?_)
    · refine X_seq ?_
      refine X_reg ?_
      refine XR_wa (opl_call (lives03 _) rfl (by kernel_rfl)) rfl rfl rfl ?_
      rintro _ hp ⟨rfl, hx⟩
      refine XR_a (op_assign rfl) rfl rfl ?_
      refine XR_nil ?_
      refine X_ret (.cons (.tmp rfl) .nil) ?_
      exact ⟨rfl, hx⟩
    · refine X_skip ?_
      refine X_seq ?_
      refine X_reg ?_
      refine XR_a (op_move rfl) rfl rfl ?_
      refine XR_wa (opl_call (unpack_ref hr hl (by omega)) rfl (by kernel_rfl)) rfl rfl rfl ?_
      rintro v hp st
      obtain ⟨A5, n5, c5, rfl, hlen5, _, _, hrd5⟩ := st.row 0 rfl
      obtain rfl : n5 = 8 * m := by rw [List.length_map, b01_length, bitsB_length] at hlen5; omega
      refine XR_a (op_assign rfl) rfl rfl ?_
      refine XR_nil ?_
      refine X_seq ?_
      refine X_reg ?_
      refine XR_a (op_move rfl) rfl rfl ?_
      refine XR_wa (opl_call (rnew_spec) rfl (by kernel_rfl)) rfl rfl rfl ?_
      rintro _ hp ⟨pr, rfl, st2⟩
      replace st := st.join st2
      simp only [List.cons_append, List.nil_append] at st
      refine XR_a (op_assign rfl) rfl rfl ?_
      refine XR_nil ?_
      refine X_seq ?_
      refine X_reg ?_
      refine XR_a (op_assign rfl) rfl rfl ?_
      refine XR_nil ?_
      refine X_seq ?_
      refine X_reg ?_
      refine XR_a (op_assign rfl) rfl rfl ?_
      refine XR_nil ?_
      refine X_seq ?_
      refine X_seq ?_
      refine X_reg ?_
      refine XR_a (op_assign rfl) rfl rfl ?_
      refine XR_nil ?_
      refine X_block ?_
      refine X_loop (fun s => m2 - s.1) (fun s => [(0, .slice A m c), (1, .slice A2 m2 c2), (5, .slice A5 (8 * m) c5), (6, .pointer (some ⟨pr, 0, none⟩)), (7, .pointer none), (8, .int .i64 (s.2 : Nat)), (9, .int .i64 (s.1 : Int))])
        (fun (s : Nat × Nat) hp => St h0.size h0 hp [rdG pr A m c s.2, row 5 1 (.slice A5 (8 * m) c5) ((b01 (bitsB l)).map byteV)] ∧ s.1 ≤ m2 ∧ s.2 ≤ 8 * m)
        (0, 0) (.cons rfl (.cons rfl (.cons rfl (.cons rfl (.cons rfl (.cons rfl (.cons rfl (.nil _)))))))) ⟨st, by simp, by simp⟩ ?_
      clear st st2 hrd5 hlen5
      rintro ⟨i, a⟩ hp ⟨st, hi, ha⟩
      simp only at st hi ha ⊢
      refine X_seq ?_
      refine X_seq ?_
      refine X_reg ?_
      refine XR_a (op_move rfl) rfl rfl ?_
      refine XR_a (op_move rfl) rfl rfl ?_
      refine XR_a (op_len rfl rfl rfl) rfl rfl ?_
      refine XR_a (op_lss rfl rfl) rfl rfl ?_
      refine XR_nil ?_
      refine X_if rfl (fun h => ?_) (fun h => ?_)
      · have hlt : i < ps.length := by omega
        obtain ⟨b, o, rfl, hc⟩ := Rd.flat pairII 2 hr2 (fun _ => rfl) (by omega) (by omega)
        have hc0 := hc i hlt 0 _ rfl
        have hc1 := hc i hlt 1 _ rfl
        have hbl : (bitsB l).length = 8 * m := by rw [bitsB_length, hl]
        have hwd := wd_le 32 ps[i].2
        generalize ps[i].1 = kd at hc0
        generalize ps[i].2 = nn at hc1 hwd
        clear hc
        refine X_skip ?_
        refine X_seq ?_
        refine X_block ?_
        refine X_seq ?_
        refine X_reg ?_
        refine XR_a (op_move rfl) rfl rfl ?_
        refine XR_a (op_move rfl) rfl rfl ?_
        first | refine XR_a (op_index1 rfl rfl rfl (by omega)) rfl rfl ?_ | refine XR_a (op_index rfl rfl rfl (by omega)) rfl rfl ?_
        first | refine XR_a (op_field0 rfl rfl) rfl rfl ?_ | refine XR_a (op_fieldn rfl rfl) rfl rfl ?_
        refine XR_a (op_ld (cellH_ext st.low hc1) rfl rfl rfl) rfl rfl ?_
        refine XR_wa (opl_call (bwidth_ref _ _) rfl (by kernel_rfl)) rfl rfl rfl ?_
        rintro _ _ ⟨rfl, rfl⟩
        refine XR_a (op_assign rfl) rfl rfl ?_
        refine XR_nil ?_
        refine X_seq ?_
        refine X_reg ?_
        refine XR_a (op_move rfl) rfl rfl ?_
        refine XR_a (op_move rfl) rfl rfl ?_
        refine XR_a (op_move rfl) rfl rfl ?_
        refine XR_wa (opl_call (number_ref (st.rdS 1 rfl).2 hbl (by omega) (by omega)) rfl (by kernel_rfl)) rfl rfl rfl ?_
        rintro _ _ ⟨rfl, rfl⟩
        rw [show wd 32 ((wd 32 nn : Nat) : Int) = wd 32 nn by unfold wd; omega]
        refine XR_a (op_assign rfl) rfl rfl ?_
        refine XR_nil ?_
        refine X_seq ?_
        refine X_reg ?_
        refine XR_a (op_move rfl) rfl rfl ?_
        refine XR_a (op_move rfl) rfl rfl ?_
        refine XR_a (op_len rfl rfl rfl) rfl rfl ?_
        refine XR_a (op_move rfl) rfl rfl ?_
        first | refine XR_a (op_subN rfl rfl (by omega) (by simp only [inK]; omega)) rfl rfl ?_ | refine XR_a (op_subI rfl rfl (by simp only [inK]; omega)) rfl rfl ?_ | refine XR_a (op_sub rfl rfl) rfl rfl ?_
        refine XR_a (op_leq rfl rfl) rfl rfl ?_
        by_cases hth : wd 32 nn ≤ 8 * m - a
        · refine XR_as (.bool true) (congrArg Value.bool (decide_eq_true (by omega))) ?_
          refine XR_a (op_assign rfl) rfl rfl ?_
          refine XR_nil ?_
          refine X_seq ?_
          refine X_seq ?_
          refine X_reg ?_
          refine XR_a (op_move rfl) rfl rfl ?_
          refine XR_a (op_move rfl) rfl rfl ?_
          first | refine XR_a (op_index1 rfl rfl rfl (by omega)) rfl rfl ?_ | refine XR_a (op_index rfl rfl rfl (by omega)) rfl rfl ?_
          first | refine XR_a (op_field0 rfl rfl) rfl rfl ?_ | refine XR_a (op_fieldn rfl rfl) rfl rfl ?_
          refine XR_a (op_ld (cellH_ext st.low hc0) rfl rfl rfl) rfl rfl ?_
          refine XR_nil ?_
          refine X_block ?_
          refine X_seq ?_
          refine X_reg ?_
          refine XR_a (op_eql rfl rfl) rfl rfl ?_
          refine XR_a (op_assign rfl) rfl rfl ?_
          refine XR_nil ?_
          refine X_if rfl (fun h => ?_) (fun h => ?_)
          · refine X_seq ?_
            refine X_reg ?_
            refine XR_a (op_move rfl) rfl rfl ?_
            refine XR_a (op_move rfl) rfl rfl ?_
            refine XR_a (op_move rfl) rfl rfl ?_
            first | refine XR_a (op_index1 rfl rfl rfl (by omega)) rfl rfl ?_ | refine XR_a (op_index rfl rfl rfl (by omega)) rfl rfl ?_
            first | refine XR_a (op_field0 rfl rfl) rfl rfl ?_ | refine XR_a (op_fieldn rfl rfl) rfl rfl ?_
            refine XR_a (op_ld (cellH_ext st.low hc1) rfl rfl rfl) rfl rfl ?_
            refine XR_wa (opl_call (rtake_spec st.here (hr.ext st.low) hl (by omega) (by omega)) rfl (by kernel_rfl)) rfl rfl rfl ?_
            rintro _ hp ⟨rfl, st2⟩
            replace st := st.trans st2
            rw [if_pos hth] at st
            rw [if_pos hth, decide_eq_true hth]
            refine XR_a (op_move rfl) rfl rfl ?_
            refine XR_a (op_extract rfl rfl) rfl rfl ?_
            refine XR_a (op_extract rfl rfl) rfl rfl ?_
            refine XR_a (op_assign rfl) rfl rfl ?_
            refine XR_a (op_assign rfl) rfl rfl ?_
            refine XR_nil ?_
            refine X_seq ?_
            refine X_reg ?_
            refine XR_a (op_move rfl) rfl rfl ?_
            refine XR_a (op_move rfl) rfl rfl ?_
            refine XR_a (op_move rfl) rfl rfl ?_
            first | refine XR_a (op_index1 rfl rfl rfl (by omega)) rfl rfl ?_ | refine XR_a (op_index rfl rfl rfl (by omega)) rfl rfl ?_
            first | refine XR_a (op_field0 rfl rfl) rfl rfl ?_ | refine XR_a (op_fieldn rfl rfl) rfl rfl ?_
            refine XR_a (op_ld (cellH_ext st.low hc1) rfl rfl rfl) rfl rfl ?_
            refine XR_wa (opl_call (rtake_none _ _) rfl (by kernel_rfl)) rfl rfl rfl ?_
            rintro _ _ ⟨rfl, rfl⟩
            refine XR_a (op_move rfl) rfl rfl ?_
            refine XR_a (op_extract rfl rfl) rfl rfl ?_
            refine XR_a (op_extract rfl rfl) rfl rfl ?_
            refine XR_a (op_assign rfl) rfl rfl ?_
            refine XR_a (op_assign rfl) rfl rfl ?_
            refine XR_nil ?_
            refine X_seq ?_
            refine X_reg ?_
            refine XR_a (op_move rfl) rfl rfl ?_
            refine XR_a (op_move rfl) rfl rfl ?_
            refine XR_a (op_neqB rfl rfl rfl) rfl rfl ?_
            refine XR_as (.bool false) rfl ?_
            refine XR_a (op_move rfl) rfl rfl ?_
            refine XR_a (op_move rfl) rfl rfl ?_
            refine XR_a (op_pick_f rfl rfl) rfl rfl ?_
            refine XR_a (op_move rfl) rfl rfl ?_
            refine XR_a (op_move rfl) rfl rfl ?_
            refine XR_a (op_move rfl) rfl rfl ?_
            refine XR_a (op_move rfl) rfl rfl ?_
            refine XR_a (op_move rfl) rfl rfl ?_
            refine XR_a (op_neq rfl rfl) rfl rfl ?_
            refine XR_as (.bool false) (congrArg Value.bool (decide_eq_false (by omega))) ?_
            refine XR_a (op_pick_t rfl rfl) rfl rfl ?_
            refine XR_a (op_pick_f rfl rfl) rfl rfl ?_
            refine XR_a (op_move rfl) rfl rfl ?_
            refine XR_a (op_move rfl) rfl rfl ?_
            refine XR_a (op_not rfl) rfl rfl ?_
            refine XR_a (op_move rfl) rfl rfl ?_
            refine XR_no rfl rfl ?_
            refine XR_no rfl rfl ?_
            refine XR_a (op_pick_f rfl rfl) rfl rfl ?_
            refine XR_a (op_pick_f rfl rfl) rfl rfl ?_
            refine XR_nil ?_
            refine X_else rfl ?_
            refine X_skip ?_
            refine X_blk ?_
            refine X_seq ?_
            refine X_seq ?_
            refine X_reg ?_
            refine XR_a (op_move rfl) rfl rfl ?_
            refine XR_nil ?_
            refine X_then rfl ?_
            refine X_reg ?_
            refine XR_a (op_move rfl) rfl rfl ?_
            refine XR_a (op_move rfl) rfl rfl ?_
            first | refine XR_a (op_addN rfl rfl (by simp only [inK]; omega)) rfl rfl ?_ | refine XR_a (op_addI rfl rfl (by simp only [inK]; omega)) rfl rfl ?_ | refine XR_a (op_add rfl rfl) rfl rfl ?_
            refine XR_a (op_assign rfl) rfl rfl ?_
            refine XR_nil ?_
            refine X_seq ?_
            refine X_reg ?_
            refine XR_a (op_move rfl) rfl rfl ?_
            refine XR_wa (opl_call (rat_spec (st.cell 0 rfl rfl)) rfl (by kernel_rfl)) rfl rfl rfl ?_
            rintro _ _ ⟨rfl, rfl⟩
            refine XR_a (op_move rfl) rfl rfl ?_
            refine XR_a (op_neq rfl rfl) rfl rfl ?_
            refine XR_as (.bool false) (congrArg Value.bool (decide_eq_false (by omega))) ?_
            refine XR_a (op_move rfl) rfl rfl ?_
            refine XR_a (op_move rfl) rfl rfl ?_
            refine XR_wa (opl_call (rleft_spec (st.cell 0 rfl rfl) (st.cell 0 rfl rfl) (by omega) (by omega)) rfl (by kernel_rfl)) rfl rfl rfl ?_
            rintro _ _ ⟨rfl, rfl⟩
            refine XR_a (op_move rfl) rfl rfl ?_
            refine XR_a (op_len rfl rfl rfl) rfl rfl ?_
            refine XR_a (op_move rfl) rfl rfl ?_
            first | refine XR_a (op_subN rfl rfl (by omega) (by simp only [inK]; omega)) rfl rfl ?_ | refine XR_a (op_subI rfl rfl (by simp only [inK]; omega)) rfl rfl ?_ | refine XR_a (op_sub rfl rfl) rfl rfl ?_
            refine XR_a (op_neq rfl rfl) rfl rfl ?_
            refine XR_as (.bool false) (congrArg Value.bool (decide_eq_false (by omega))) ?_
            refine XR_a (op_pick_f rfl rfl) rfl rfl ?_
            refine XR_nil ?_
            refine X_else rfl ?_
            refine X_skip ?_
            refine X_blk ?_
            refine X_reg ?_
            refine XR_a (op_move rfl) rfl rfl ?_
            first | refine XR_a (op_addN (n := 1) rfl rfl (by simp only [inK]; omega)) rfl rfl ?_ | refine XR_a (op_addI rfl rfl (by simp only [inK]; omega)) rfl rfl ?_ | refine XR_a (op_add rfl rfl) rfl rfl ?_
            refine XR_a (op_assign rfl) rfl rfl ?_
            refine XR_nil ?_
            exact X_again (i + 1, a + wd 32 nn) (.cons rfl (.cons rfl (.cons rfl (.cons rfl (.cons rfl (.cons rfl (.cons rfl (.nil _)))))))) ⟨st, by simp only; omega, by simp only; omega⟩ (by simp only; omega)
          · refine X_seq ?_
            refine X_reg ?_
            refine XR_a (op_eql rfl rfl) rfl rfl ?_
            refine XR_a (op_assign rfl) rfl rfl ?_
            refine XR_nil ?_
            refine X_if rfl (fun h => ?_) (fun h => ?_)
            · refine X_seq ?_
              refine X_seq ?_
              refine X_reg ?_
              refine XR_a (op_move rfl) rfl rfl ?_
              refine XR_a (op_move rfl) rfl rfl ?_
              refine XR_a (op_move rfl) rfl rfl ?_
              first | refine XR_a (op_index1 rfl rfl rfl (by omega)) rfl rfl ?_ | refine XR_a (op_index rfl rfl rfl (by omega)) rfl rfl ?_
              first | refine XR_a (op_field0 rfl rfl) rfl rfl ?_ | refine XR_a (op_fieldn rfl rfl) rfl rfl ?_
              refine XR_a (op_ld (cellH_ext st.low hc1) rfl rfl rfl) rfl rfl ?_
              refine XR_wa (opl_call (rpeek_spec (st.cell 0 rfl rfl) (st.cell 0 rfl rfl) (hr.ext st.low) hl (by omega) (by omega)) rfl (by kernel_rfl)) rfl rfl rfl ?_
              rintro _ _ ⟨rfl, rfl⟩
              refine XR_a (op_move rfl) rfl rfl ?_
              refine XR_a (op_neq rfl rfl) rfl rfl ?_
              refine XR_as (.bool false) (congrArg Value.bool (decide_eq_false (by omega))) ?_
              refine XR_a (op_move rfl) rfl rfl ?_
              refine XR_a (op_move rfl) rfl rfl ?_
              refine XR_a (op_move rfl) rfl rfl ?_
              refine XR_a (op_move rfl) rfl rfl ?_
              first | refine XR_a (op_index1 rfl rfl rfl (by omega)) rfl rfl ?_ | refine XR_a (op_index rfl rfl rfl (by omega)) rfl rfl ?_
              first | refine XR_a (op_field0 rfl rfl) rfl rfl ?_ | refine XR_a (op_fieldn rfl rfl) rfl rfl ?_
              refine XR_a (op_ld (cellH_ext st.low hc1) rfl rfl rfl) rfl rfl ?_
              refine XR_wa (opl_call (rpeek_none _ _) rfl (by kernel_rfl)) rfl rfl rfl ?_
              rintro _ _ ⟨rfl, rfl⟩
              refine XR_a (op_neq rfl rfl) rfl rfl ?_
              refine XR_as (.bool false) (congrArg Value.bool (decide_eq_false (by omega))) ?_
              refine XR_a (op_pick_f rfl rfl) rfl rfl ?_
              refine XR_nil ?_
              refine X_else rfl ?_
              refine X_skip ?_
              refine X_reg ?_
              refine XR_a (op_assign rfl) rfl rfl ?_
              refine XR_nil ?_
              refine X_blk ?_
              refine X_seq ?_
              refine X_seq ?_
              refine X_reg ?_
              refine XR_a (op_move rfl) rfl rfl ?_
              refine XR_nil ?_
              refine X_then rfl ?_
              refine X_reg ?_
              refine XR_a (op_move rfl) rfl rfl ?_
              refine XR_a (op_move rfl) rfl rfl ?_
              refine XR_a (op_addN (n := 0) rfl rfl (by simp only [inK]; omega)) rfl rfl ?_
              rw [Nat.add_zero]
              refine XR_a (op_assign rfl) rfl rfl ?_
              refine XR_nil ?_
              refine X_seq ?_
              refine X_reg ?_
              refine XR_a (op_move rfl) rfl rfl ?_
              refine XR_wa (opl_call (rat_spec (st.cell 0 rfl rfl)) rfl (by kernel_rfl)) rfl rfl rfl ?_
              rintro _ _ ⟨rfl, rfl⟩
              refine XR_a (op_move rfl) rfl rfl ?_
              refine XR_a (op_neq rfl rfl) rfl rfl ?_
              refine XR_as (.bool false) (congrArg Value.bool (decide_eq_false (by omega))) ?_
              refine XR_a (op_move rfl) rfl rfl ?_
              refine XR_a (op_move rfl) rfl rfl ?_
              refine XR_wa (opl_call (rleft_spec (st.cell 0 rfl rfl) (st.cell 0 rfl rfl) (by omega) (by omega)) rfl (by kernel_rfl)) rfl rfl rfl ?_
              rintro _ _ ⟨rfl, rfl⟩
              refine XR_a (op_move rfl) rfl rfl ?_
              refine XR_a (op_len rfl rfl rfl) rfl rfl ?_
              refine XR_a (op_move rfl) rfl rfl ?_
              first | refine XR_a (op_subN rfl rfl (by omega) (by simp only [inK]; omega)) rfl rfl ?_ | refine XR_a (op_subI rfl rfl (by simp only [inK]; omega)) rfl rfl ?_ | refine XR_a (op_sub rfl rfl) rfl rfl ?_
              refine XR_a (op_neq rfl rfl) rfl rfl ?_
              refine XR_as (.bool false) (congrArg Value.bool (decide_eq_false (by omega))) ?_
              refine XR_a (op_pick_f rfl rfl) rfl rfl ?_
              refine XR_nil ?_
              refine X_else rfl ?_
              refine X_skip ?_
              refine X_blk ?_
              refine X_reg ?_
              refine XR_a (op_move rfl) rfl rfl ?_
              first | refine XR_a (op_addN (n := 1) rfl rfl (by simp only [inK]; omega)) rfl rfl ?_ | refine XR_a (op_addI rfl rfl (by simp only [inK]; omega)) rfl rfl ?_ | refine XR_a (op_add rfl rfl) rfl rfl ?_
              refine XR_a (op_assign rfl) rfl rfl ?_
              refine XR_nil ?_
              exact X_again (i + 1, a) (.cons rfl (.cons rfl (.cons rfl (.cons rfl (.cons rfl (.cons rfl (.cons rfl (.nil _)))))))) ⟨st, by simp only; omega, by simp only; omega⟩ (by simp only; omega)
            · refine X_seq ?_
              refine X_reg ?_
              refine XR_a (op_eql rfl rfl) rfl rfl ?_
              refine XR_a (op_assign rfl) rfl rfl ?_
              refine XR_nil ?_
              refine X_if rfl (fun h => ?_) (fun h => ?_)
              · refine X_seq ?_
                refine X_reg ?_
                refine XR_a (op_move rfl) rfl rfl ?_
                refine XR_a (op_move rfl) rfl rfl ?_
                refine XR_a (op_move rfl) rfl rfl ?_
                first | refine XR_a (op_index1 rfl rfl rfl (by omega)) rfl rfl ?_ | refine XR_a (op_index rfl rfl rfl (by omega)) rfl rfl ?_
                first | refine XR_a (op_field0 rfl rfl) rfl rfl ?_ | refine XR_a (op_fieldn rfl rfl) rfl rfl ?_
                refine XR_a (op_ld (cellH_ext st.low hc1) rfl rfl rfl) rfl rfl ?_
                refine XR_wa (opl_call (rskip_spec st.here (by omega) (by omega)) rfl (by kernel_rfl)) rfl rfl rfl ?_
                rintro _ hp ⟨rfl, st2⟩
                replace st := st.trans st2
                rw [if_pos hth] at st
                rw [decide_eq_true hth]
                refine XR_a (op_move rfl) rfl rfl ?_
                refine XR_a (op_neqB rfl rfl rfl) rfl rfl ?_
                refine XR_as (.bool false) rfl ?_
                refine XR_a (op_move rfl) rfl rfl ?_
                refine XR_a (op_move rfl) rfl rfl ?_
                refine XR_a (op_move rfl) rfl rfl ?_
                refine XR_a (op_move rfl) rfl rfl ?_
                first | refine XR_a (op_index1 rfl rfl rfl (by omega)) rfl rfl ?_ | refine XR_a (op_index rfl rfl rfl (by omega)) rfl rfl ?_
                first | refine XR_a (op_field0 rfl rfl) rfl rfl ?_ | refine XR_a (op_fieldn rfl rfl) rfl rfl ?_
                refine XR_a (op_ld (cellH_ext st.low hc1) rfl rfl rfl) rfl rfl ?_
                refine XR_wa (opl_call (rskip_none _ _) rfl (by kernel_rfl)) rfl rfl rfl ?_
                rintro _ _ ⟨rfl, rfl⟩
                refine XR_a (op_pick_f rfl rfl) rfl rfl ?_
                refine XR_nil ?_
                refine X_else rfl ?_
                refine X_skip ?_
                refine X_blk ?_
                refine X_seq ?_
                refine X_seq ?_
                refine X_reg ?_
                refine XR_a (op_move rfl) rfl rfl ?_
                refine XR_nil ?_
                refine X_then rfl ?_
                refine X_reg ?_
                refine XR_a (op_move rfl) rfl rfl ?_
                refine XR_a (op_move rfl) rfl rfl ?_
                first | refine XR_a (op_addN rfl rfl (by simp only [inK]; omega)) rfl rfl ?_ | refine XR_a (op_addI rfl rfl (by simp only [inK]; omega)) rfl rfl ?_ | refine XR_a (op_add rfl rfl) rfl rfl ?_
                refine XR_a (op_assign rfl) rfl rfl ?_
                refine XR_nil ?_
                refine X_seq ?_
                refine X_reg ?_
                refine XR_a (op_move rfl) rfl rfl ?_
                refine XR_wa (opl_call (rat_spec (st.cell 0 rfl rfl)) rfl (by kernel_rfl)) rfl rfl rfl ?_
                rintro _ _ ⟨rfl, rfl⟩
                refine XR_a (op_move rfl) rfl rfl ?_
                refine XR_a (op_neq rfl rfl) rfl rfl ?_
                refine XR_as (.bool false) (congrArg Value.bool (decide_eq_false (by omega))) ?_
                refine XR_a (op_move rfl) rfl rfl ?_
                refine XR_a (op_move rfl) rfl rfl ?_
                refine XR_wa (opl_call (rleft_spec (st.cell 0 rfl rfl) (st.cell 0 rfl rfl) (by omega) (by omega)) rfl (by kernel_rfl)) rfl rfl rfl ?_
                rintro _ _ ⟨rfl, rfl⟩
                refine XR_a (op_move rfl) rfl rfl ?_
                refine XR_a (op_len rfl rfl rfl) rfl rfl ?_
                refine XR_a (op_move rfl) rfl rfl ?_
                first | refine XR_a (op_subN rfl rfl (by omega) (by simp only [inK]; omega)) rfl rfl ?_ | refine XR_a (op_subI rfl rfl (by simp only [inK]; omega)) rfl rfl ?_ | refine XR_a (op_sub rfl rfl) rfl rfl ?_
                refine XR_a (op_neq rfl rfl) rfl rfl ?_
                refine XR_as (.bool false) (congrArg Value.bool (decide_eq_false (by omega))) ?_
                refine XR_a (op_pick_f rfl rfl) rfl rfl ?_
                refine XR_nil ?_
                refine X_else rfl ?_
                refine X_skip ?_
                refine X_blk ?_
                refine X_reg ?_
                refine XR_a (op_move rfl) rfl rfl ?_
                first | refine XR_a (op_addN (n := 1) rfl rfl (by simp only [inK]; omega)) rfl rfl ?_ | refine XR_a (op_addI rfl rfl (by simp only [inK]; omega)) rfl rfl ?_ | refine XR_a (op_add rfl rfl) rfl rfl ?_
                refine XR_a (op_assign rfl) rfl rfl ?_
                refine XR_nil ?_
                exact X_again (i + 1, a + wd 32 nn) (.cons rfl (.cons rfl (.cons rfl (.cons rfl (.cons rfl (.cons rfl (.cons rfl (.nil _)))))))) ⟨st, by simp only; omega, by simp only; omega⟩ (by simp only; omega)
              · refine X_seq ?_
                refine X_reg ?_
                refine XR_a (op_move rfl) rfl rfl ?_
                refine XR_wa (opl_call (ralign_spec st.here (by omega) (by omega)) rfl (by kernel_rfl)) rfl rfl rfl ?_
                rintro _ hp ⟨rfl, st2⟩
                replace st := st.trans st2
                refine XR_nil ?_
                refine X_seq ?_
                refine X_reg ?_
                refine XR_a (op_move rfl) rfl rfl ?_
                refine XR_wa (opl_call (ralign_none _) rfl (by kernel_rfl)) rfl rfl rfl ?_
                rintro _ _ ⟨rfl, rfl⟩
                refine XR_nil ?_
                refine X_seq ?_
                refine X_reg ?_
                refine XR_a (op_move rfl) rfl rfl ?_
                first | refine XR_a (op_remN (n := 8) rfl rfl (by omega)) rfl rfl ?_ | refine XR_a (op_remI rfl rfl (by omega) (by omega)) rfl rfl ?_ | refine XR_a (op_rem rfl rfl (by omega)) rfl rfl ?_
                refine XR_a (op_subN (m := 8) rfl rfl (by omega) (by simp only [inK]; omega)) rfl rfl ?_
                first | refine XR_a (op_remN (n := 8) rfl rfl (by omega)) rfl rfl ?_ | refine XR_a (op_remI rfl rfl (by omega) (by omega)) rfl rfl ?_ | refine XR_a (op_rem rfl rfl (by omega)) rfl rfl ?_
                refine XR_a (op_assign rfl) rfl rfl ?_
                refine XR_nil ?_
                refine X_reg ?_
                refine XR_a (op_assign rfl) rfl rfl ?_
                refine XR_nil ?_
                refine X_blk ?_
                refine X_seq ?_
                refine X_seq ?_
                refine X_reg ?_
                refine XR_a (op_move rfl) rfl rfl ?_
                refine XR_nil ?_
                refine X_then rfl ?_
                refine X_reg ?_
                refine XR_a (op_move rfl) rfl rfl ?_
                refine XR_a (op_move rfl) rfl rfl ?_
                first | refine XR_a (op_addN rfl rfl (by simp only [inK]; omega)) rfl rfl ?_ | refine XR_a (op_addI rfl rfl (by simp only [inK]; omega)) rfl rfl ?_ | refine XR_a (op_add rfl rfl) rfl rfl ?_
                refine XR_a (op_assign rfl) rfl rfl ?_
                refine XR_nil ?_
                refine X_seq ?_
                refine X_reg ?_
                refine XR_a (op_move rfl) rfl rfl ?_
                refine XR_wa (opl_call (rat_spec (st.cell 0 rfl rfl)) rfl (by kernel_rfl)) rfl rfl rfl ?_
                rintro _ _ ⟨rfl, rfl⟩
                refine XR_a (op_move rfl) rfl rfl ?_
                refine XR_a (op_neq rfl rfl) rfl rfl ?_
                refine XR_as (.bool false) (congrArg Value.bool (decide_eq_false (by omega))) ?_
                refine XR_a (op_move rfl) rfl rfl ?_
                refine XR_a (op_move rfl) rfl rfl ?_
                refine XR_wa (opl_call (rleft_spec (st.cell 0 rfl rfl) (st.cell 0 rfl rfl) (by omega) (by omega)) rfl (by kernel_rfl)) rfl rfl rfl ?_
                rintro _ _ ⟨rfl, rfl⟩
                refine XR_a (op_move rfl) rfl rfl ?_
                refine XR_a (op_len rfl rfl rfl) rfl rfl ?_
                refine XR_a (op_move rfl) rfl rfl ?_
                first | refine XR_a (op_subN rfl rfl (by omega) (by simp only [inK]; omega)) rfl rfl ?_ | refine XR_a (op_subI rfl rfl (by simp only [inK]; omega)) rfl rfl ?_ | refine XR_a (op_sub rfl rfl) rfl rfl ?_
                refine XR_a (op_neq rfl rfl) rfl rfl ?_
                refine XR_as (.bool false) (congrArg Value.bool (decide_eq_false (by omega))) ?_
                refine XR_a (op_pick_f rfl rfl) rfl rfl ?_
                refine XR_nil ?_
                refine X_else rfl ?_
                refine X_skip ?_
                refine X_blk ?_
                refine X_reg ?_
                refine XR_a (op_move rfl) rfl rfl ?_
                first | refine XR_a (op_addN (n := 1) rfl rfl (by simp only [inK]; omega)) rfl rfl ?_ | refine XR_a (op_addI rfl rfl (by simp only [inK]; omega)) rfl rfl ?_ | refine XR_a (op_add rfl rfl) rfl rfl ?_
                refine XR_a (op_assign rfl) rfl rfl ?_
                refine XR_nil ?_
                have e : (a + 7) / 8 * 8 = a + (8 - a % 8) % 8 := by omega
                rw [e] at st
                exact X_again (i + 1, a + (8 - a % 8) % 8) (.cons rfl (.cons rfl (.cons rfl (.cons rfl (.cons rfl (.cons rfl (.cons rfl (.nil _)))))))) ⟨st, by simp only; omega, by simp only; omega⟩ (by simp only; omega)
        · refine XR_as (.bool false) (congrArg Value.bool (decide_eq_false (by omega))) ?_
          refine XR_a (op_assign rfl) rfl rfl ?_
          refine XR_nil ?_
          refine X_seq ?_
          refine X_seq ?_
          refine X_reg ?_
          refine XR_a (op_move rfl) rfl rfl ?_
          refine XR_a (op_move rfl) rfl rfl ?_
          first | refine XR_a (op_index1 rfl rfl rfl (by omega)) rfl rfl ?_ | refine XR_a (op_index rfl rfl rfl (by omega)) rfl rfl ?_
          first | refine XR_a (op_field0 rfl rfl) rfl rfl ?_ | refine XR_a (op_fieldn rfl rfl) rfl rfl ?_
          refine XR_a (op_ld (cellH_ext st.low hc0) rfl rfl rfl) rfl rfl ?_
          refine XR_nil ?_
          refine X_block ?_
          refine X_seq ?_
          refine X_reg ?_
          refine XR_a (op_eql rfl rfl) rfl rfl ?_
          refine XR_a (op_assign rfl) rfl rfl ?_
          refine XR_nil ?_
          refine X_if rfl (fun h => ?_) (fun h => ?_)
          · refine X_seq ?_
            refine X_reg ?_
            refine XR_a (op_move rfl) rfl rfl ?_
            refine XR_a (op_move rfl) rfl rfl ?_
            refine XR_a (op_move rfl) rfl rfl ?_
            first | refine XR_a (op_index1 rfl rfl rfl (by omega)) rfl rfl ?_ | refine XR_a (op_index rfl rfl rfl (by omega)) rfl rfl ?_
            first | refine XR_a (op_field0 rfl rfl) rfl rfl ?_ | refine XR_a (op_fieldn rfl rfl) rfl rfl ?_
            refine XR_a (op_ld (cellH_ext st.low hc1) rfl rfl rfl) rfl rfl ?_
            refine XR_wa (opl_call (rtake_spec st.here (hr.ext st.low) hl (by omega) (by omega)) rfl (by kernel_rfl)) rfl rfl rfl ?_
            rintro _ hp ⟨rfl, st2⟩
            replace st := st.trans st2
            rw [if_neg hth] at st
            rw [if_neg hth, decide_eq_false hth]
            refine XR_a (op_move rfl) rfl rfl ?_
            refine XR_a (op_extract rfl rfl) rfl rfl ?_
            refine XR_a (op_extract rfl rfl) rfl rfl ?_
            refine XR_a (op_assign rfl) rfl rfl ?_
            refine XR_a (op_assign rfl) rfl rfl ?_
            refine XR_nil ?_
            refine X_seq ?_
            refine X_reg ?_
            refine XR_a (op_move rfl) rfl rfl ?_
            refine XR_a (op_move rfl) rfl rfl ?_
            refine XR_a (op_move rfl) rfl rfl ?_
            first | refine XR_a (op_index1 rfl rfl rfl (by omega)) rfl rfl ?_ | refine XR_a (op_index rfl rfl rfl (by omega)) rfl rfl ?_
            first | refine XR_a (op_field0 rfl rfl) rfl rfl ?_ | refine XR_a (op_fieldn rfl rfl) rfl rfl ?_
            refine XR_a (op_ld (cellH_ext st.low hc1) rfl rfl rfl) rfl rfl ?_
            refine XR_wa (opl_call (rtake_none _ _) rfl (by kernel_rfl)) rfl rfl rfl ?_
            rintro _ _ ⟨rfl, rfl⟩
            refine XR_a (op_move rfl) rfl rfl ?_
            refine XR_a (op_extract rfl rfl) rfl rfl ?_
            refine XR_a (op_extract rfl rfl) rfl rfl ?_
            refine XR_a (op_assign rfl) rfl rfl ?_
            refine XR_a (op_assign rfl) rfl rfl ?_
            refine XR_nil ?_
            refine X_seq ?_
            refine X_reg ?_
            refine XR_a (op_move rfl) rfl rfl ?_
            refine XR_a (op_move rfl) rfl rfl ?_
            refine XR_a (op_neqB rfl rfl rfl) rfl rfl ?_
            refine XR_as (.bool false) rfl ?_
            refine XR_a (op_move rfl) rfl rfl ?_
            refine XR_a (op_move rfl) rfl rfl ?_
            refine XR_a (op_pick_f rfl rfl) rfl rfl ?_
            refine XR_a (op_move rfl) rfl rfl ?_
            refine XR_a (op_move rfl) rfl rfl ?_
            refine XR_a (op_move rfl) rfl rfl ?_
            refine XR_no rfl rfl ?_
            refine XR_no rfl rfl ?_
            refine XR_no rfl rfl ?_
            refine XR_a (op_pick_f rfl rfl) rfl rfl ?_
            refine XR_a (op_pick_f rfl rfl) rfl rfl ?_
            refine XR_a (op_move rfl) rfl rfl ?_
            refine XR_a (op_move rfl) rfl rfl ?_
            refine XR_a (op_not rfl) rfl rfl ?_
            refine XR_a (op_move rfl) rfl rfl ?_
            refine XR_a (op_move rfl) rfl rfl ?_
            refine XR_a (op_neq rfl rfl) rfl rfl ?_
            refine XR_as (.bool false) (congrArg Value.bool (decide_eq_false (by omega))) ?_
            refine XR_a (op_pick_t rfl rfl) rfl rfl ?_
            refine XR_a (op_pick_f rfl rfl) rfl rfl ?_
            refine XR_nil ?_
            refine X_else rfl ?_
            refine X_skip ?_
            refine X_blk ?_
            refine X_seq ?_
            refine X_seq ?_
            refine X_reg ?_
            refine XR_a (op_move rfl) rfl rfl ?_
            refine XR_nil ?_
            refine X_else rfl ?_
            refine X_skip ?_
            refine X_seq ?_
            refine X_reg ?_
            refine XR_a (op_move rfl) rfl rfl ?_
            refine XR_wa (opl_call (rat_spec (st.cell 0 rfl rfl)) rfl (by kernel_rfl)) rfl rfl rfl ?_
            rintro _ _ ⟨rfl, rfl⟩
            refine XR_a (op_move rfl) rfl rfl ?_
            refine XR_a (op_neq rfl rfl) rfl rfl ?_
            refine XR_as (.bool false) (congrArg Value.bool (decide_eq_false (by omega))) ?_
            refine XR_a (op_move rfl) rfl rfl ?_
            refine XR_a (op_move rfl) rfl rfl ?_
            refine XR_wa (opl_call (rleft_spec (st.cell 0 rfl rfl) (st.cell 0 rfl rfl) (by omega) (by omega)) rfl (by kernel_rfl)) rfl rfl rfl ?_
            rintro _ _ ⟨rfl, rfl⟩
            refine XR_a (op_move rfl) rfl rfl ?_
            refine XR_a (op_len rfl rfl rfl) rfl rfl ?_
            refine XR_a (op_move rfl) rfl rfl ?_
            first | refine XR_a (op_subN rfl rfl (by omega) (by simp only [inK]; omega)) rfl rfl ?_ | refine XR_a (op_subI rfl rfl (by simp only [inK]; omega)) rfl rfl ?_ | refine XR_a (op_sub rfl rfl) rfl rfl ?_
            refine XR_a (op_neq rfl rfl) rfl rfl ?_
            refine XR_as (.bool false) (congrArg Value.bool (decide_eq_false (by omega))) ?_
            refine XR_a (op_pick_f rfl rfl) rfl rfl ?_
            refine XR_nil ?_
            refine X_else rfl ?_
            refine X_skip ?_
            refine X_blk ?_
            refine X_reg ?_
            refine XR_a (op_move rfl) rfl rfl ?_
            first | refine XR_a (op_addN (n := 1) rfl rfl (by simp only [inK]; omega)) rfl rfl ?_ | refine XR_a (op_addI rfl rfl (by simp only [inK]; omega)) rfl rfl ?_ | refine XR_a (op_add rfl rfl) rfl rfl ?_
            refine XR_a (op_assign rfl) rfl rfl ?_
            refine XR_nil ?_
            exact X_again (i + 1, a) (.cons rfl (.cons rfl (.cons rfl (.cons rfl (.cons rfl (.cons rfl (.cons rfl (.nil _)))))))) ⟨st, by simp only; omega, by simp only; omega⟩ (by simp only; omega)
          · refine X_seq ?_
            refine X_reg ?_
            refine XR_a (op_eql rfl rfl) rfl rfl ?_
            refine XR_a (op_assign rfl) rfl rfl ?_
            refine XR_nil ?_
            refine X_if rfl (fun h => ?_) (fun h => ?_)
            · refine X_seq ?_
              refine X_seq ?_
              refine X_reg ?_
              refine XR_a (op_move rfl) rfl rfl ?_
              refine XR_a (op_move rfl) rfl rfl ?_
              refine XR_a (op_move rfl) rfl rfl ?_
              first | refine XR_a (op_index1 rfl rfl rfl (by omega)) rfl rfl ?_ | refine XR_a (op_index rfl rfl rfl (by omega)) rfl rfl ?_
              first | refine XR_a (op_field0 rfl rfl) rfl rfl ?_ | refine XR_a (op_fieldn rfl rfl) rfl rfl ?_
              refine XR_a (op_ld (cellH_ext st.low hc1) rfl rfl rfl) rfl rfl ?_
              refine XR_wa (opl_call (rpeek_spec (st.cell 0 rfl rfl) (st.cell 0 rfl rfl) (hr.ext st.low) hl (by omega) (by omega)) rfl (by kernel_rfl)) rfl rfl rfl ?_
              rintro _ _ ⟨rfl, rfl⟩
              refine XR_a (op_move rfl) rfl rfl ?_
              refine XR_a (op_neq rfl rfl) rfl rfl ?_
              refine XR_as (.bool false) (congrArg Value.bool (decide_eq_false (by omega))) ?_
              refine XR_a (op_move rfl) rfl rfl ?_
              refine XR_a (op_move rfl) rfl rfl ?_
              refine XR_a (op_move rfl) rfl rfl ?_
              refine XR_a (op_move rfl) rfl rfl ?_
              first | refine XR_a (op_index1 rfl rfl rfl (by omega)) rfl rfl ?_ | refine XR_a (op_index rfl rfl rfl (by omega)) rfl rfl ?_
              first | refine XR_a (op_field0 rfl rfl) rfl rfl ?_ | refine XR_a (op_fieldn rfl rfl) rfl rfl ?_
              refine XR_a (op_ld (cellH_ext st.low hc1) rfl rfl rfl) rfl rfl ?_
              refine XR_wa (opl_call (rpeek_none _ _) rfl (by kernel_rfl)) rfl rfl rfl ?_
              rintro _ _ ⟨rfl, rfl⟩
              refine XR_a (op_neq rfl rfl) rfl rfl ?_
              refine XR_as (.bool false) (congrArg Value.bool (decide_eq_false (by omega))) ?_
              refine XR_a (op_pick_f rfl rfl) rfl rfl ?_
              refine XR_nil ?_
              refine X_else rfl ?_
              refine X_skip ?_
              refine X_reg ?_
              refine XR_a (op_assign rfl) rfl rfl ?_
              refine XR_nil ?_
              refine X_blk ?_
              refine X_seq ?_
              refine X_seq ?_
              refine X_reg ?_
              refine XR_a (op_move rfl) rfl rfl ?_
              refine XR_nil ?_
              refine X_else rfl ?_
              refine X_skip ?_
              refine X_seq ?_
              refine X_reg ?_
              refine XR_a (op_move rfl) rfl rfl ?_
              refine XR_wa (opl_call (rat_spec (st.cell 0 rfl rfl)) rfl (by kernel_rfl)) rfl rfl rfl ?_
              rintro _ _ ⟨rfl, rfl⟩
              refine XR_a (op_move rfl) rfl rfl ?_
              refine XR_a (op_neq rfl rfl) rfl rfl ?_
              refine XR_as (.bool false) (congrArg Value.bool (decide_eq_false (by omega))) ?_
              refine XR_a (op_move rfl) rfl rfl ?_
              refine XR_a (op_move rfl) rfl rfl ?_
              refine XR_wa (opl_call (rleft_spec (st.cell 0 rfl rfl) (st.cell 0 rfl rfl) (by omega) (by omega)) rfl (by kernel_rfl)) rfl rfl rfl ?_
              rintro _ _ ⟨rfl, rfl⟩
              refine XR_a (op_move rfl) rfl rfl ?_
              refine XR_a (op_len rfl rfl rfl) rfl rfl ?_
              refine XR_a (op_move rfl) rfl rfl ?_
              first | refine XR_a (op_subN rfl rfl (by omega) (by simp only [inK]; omega)) rfl rfl ?_ | refine XR_a (op_subI rfl rfl (by simp only [inK]; omega)) rfl rfl ?_ | refine XR_a (op_sub rfl rfl) rfl rfl ?_
              refine XR_a (op_neq rfl rfl) rfl rfl ?_
              refine XR_as (.bool false) (congrArg Value.bool (decide_eq_false (by omega))) ?_
              refine XR_a (op_pick_f rfl rfl) rfl rfl ?_
              refine XR_nil ?_
              refine X_else rfl ?_
              refine X_skip ?_
              refine X_blk ?_
              refine X_reg ?_
              refine XR_a (op_move rfl) rfl rfl ?_
              first | refine XR_a (op_addN (n := 1) rfl rfl (by simp only [inK]; omega)) rfl rfl ?_ | refine XR_a (op_addI rfl rfl (by simp only [inK]; omega)) rfl rfl ?_ | refine XR_a (op_add rfl rfl) rfl rfl ?_
              refine XR_a (op_assign rfl) rfl rfl ?_
              refine XR_nil ?_
              exact X_again (i + 1, a) (.cons rfl (.cons rfl (.cons rfl (.cons rfl (.cons rfl (.cons rfl (.cons rfl (.nil _)))))))) ⟨st, by simp only; omega, by simp only; omega⟩ (by simp only; omega)
            · refine X_seq ?_
              refine X_reg ?_
              refine XR_a (op_eql rfl rfl) rfl rfl ?_
              refine XR_a (op_assign rfl) rfl rfl ?_
              refine XR_nil ?_
              refine X_if rfl (fun h => ?_) (fun h => ?_)
              · refine X_seq ?_
                refine X_reg ?_
                refine XR_a (op_move rfl) rfl rfl ?_
                refine XR_a (op_move rfl) rfl rfl ?_
                refine XR_a (op_move rfl) rfl rfl ?_
                first | refine XR_a (op_index1 rfl rfl rfl (by omega)) rfl rfl ?_ | refine XR_a (op_index rfl rfl rfl (by omega)) rfl rfl ?_
                first | refine XR_a (op_field0 rfl rfl) rfl rfl ?_ | refine XR_a (op_fieldn rfl rfl) rfl rfl ?_
                refine XR_a (op_ld (cellH_ext st.low hc1) rfl rfl rfl) rfl rfl ?_
                refine XR_wa (opl_call (rskip_spec st.here (by omega) (by omega)) rfl (by kernel_rfl)) rfl rfl rfl ?_
                rintro _ hp ⟨rfl, st2⟩
                replace st := st.trans st2
                rw [if_neg hth] at st
                rw [decide_eq_false hth]
                refine XR_a (op_move rfl) rfl rfl ?_
                refine XR_a (op_neqB rfl rfl rfl) rfl rfl ?_
                refine XR_as (.bool false) rfl ?_
                refine XR_a (op_move rfl) rfl rfl ?_
                refine XR_a (op_move rfl) rfl rfl ?_
                refine XR_a (op_move rfl) rfl rfl ?_
                refine XR_a (op_move rfl) rfl rfl ?_
                first | refine XR_a (op_index1 rfl rfl rfl (by omega)) rfl rfl ?_ | refine XR_a (op_index rfl rfl rfl (by omega)) rfl rfl ?_
                first | refine XR_a (op_field0 rfl rfl) rfl rfl ?_ | refine XR_a (op_fieldn rfl rfl) rfl rfl ?_
                refine XR_a (op_ld (cellH_ext st.low hc1) rfl rfl rfl) rfl rfl ?_
                refine XR_wa (opl_call (rskip_none _ _) rfl (by kernel_rfl)) rfl rfl rfl ?_
                rintro _ _ ⟨rfl, rfl⟩
                refine XR_a (op_pick_f rfl rfl) rfl rfl ?_
                refine XR_nil ?_
                refine X_else rfl ?_
                refine X_skip ?_
                refine X_blk ?_
                refine X_seq ?_
                refine X_seq ?_
                refine X_reg ?_
                refine XR_a (op_move rfl) rfl rfl ?_
                refine XR_nil ?_
                refine X_else rfl ?_
                refine X_skip ?_
                refine X_seq ?_
                refine X_reg ?_
                refine XR_a (op_move rfl) rfl rfl ?_
                refine XR_wa (opl_call (rat_spec (st.cell 0 rfl rfl)) rfl (by kernel_rfl)) rfl rfl rfl ?_
                rintro _ _ ⟨rfl, rfl⟩
                refine XR_a (op_move rfl) rfl rfl ?_
                refine XR_a (op_neq rfl rfl) rfl rfl ?_
                refine XR_as (.bool false) (congrArg Value.bool (decide_eq_false (by omega))) ?_
                refine XR_a (op_move rfl) rfl rfl ?_
                refine XR_a (op_move rfl) rfl rfl ?_
                refine XR_wa (opl_call (rleft_spec (st.cell 0 rfl rfl) (st.cell 0 rfl rfl) (by omega) (by omega)) rfl (by kernel_rfl)) rfl rfl rfl ?_
                rintro _ _ ⟨rfl, rfl⟩
                refine XR_a (op_move rfl) rfl rfl ?_
                refine XR_a (op_len rfl rfl rfl) rfl rfl ?_
                refine XR_a (op_move rfl) rfl rfl ?_
                first | refine XR_a (op_subN rfl rfl (by omega) (by simp only [inK]; omega)) rfl rfl ?_ | refine XR_a (op_subI rfl rfl (by simp only [inK]; omega)) rfl rfl ?_ | refine XR_a (op_sub rfl rfl) rfl rfl ?_
                refine XR_a (op_neq rfl rfl) rfl rfl ?_
                refine XR_as (.bool false) (congrArg Value.bool (decide_eq_false (by omega))) ?_
                refine XR_a (op_pick_f rfl rfl) rfl rfl ?_
                refine XR_nil ?_
                refine X_else rfl ?_
                refine X_skip ?_
                refine X_blk ?_
                refine X_reg ?_
                refine XR_a (op_move rfl) rfl rfl ?_
                first | refine XR_a (op_addN (n := 1) rfl rfl (by simp only [inK]; omega)) rfl rfl ?_ | refine XR_a (op_addI rfl rfl (by simp only [inK]; omega)) rfl rfl ?_ | refine XR_a (op_add rfl rfl) rfl rfl ?_
                refine XR_a (op_assign rfl) rfl rfl ?_
                refine XR_nil ?_
                exact X_again (i + 1, a) (.cons rfl (.cons rfl (.cons rfl (.cons rfl (.cons rfl (.cons rfl (.cons rfl (.nil _)))))))) ⟨st, by simp only; omega, by simp only; omega⟩ (by simp only; omega)
              · refine X_seq ?_
                refine X_reg ?_
                refine XR_a (op_move rfl) rfl rfl ?_
                refine XR_wa (opl_call (ralign_spec st.here (by omega) (by omega)) rfl (by kernel_rfl)) rfl rfl rfl ?_
                rintro _ hp ⟨rfl, st2⟩
                replace st := st.trans st2
                refine XR_nil ?_
                refine X_seq ?_
                refine X_reg ?_
                refine XR_a (op_move rfl) rfl rfl ?_
                refine XR_wa (opl_call (ralign_none _) rfl (by kernel_rfl)) rfl rfl rfl ?_
                rintro _ _ ⟨rfl, rfl⟩
                refine XR_nil ?_
                refine X_seq ?_
                refine X_reg ?_
                refine XR_a (op_move rfl) rfl rfl ?_
                first | refine XR_a (op_remN (n := 8) rfl rfl (by omega)) rfl rfl ?_ | refine XR_a (op_remI rfl rfl (by omega) (by omega)) rfl rfl ?_ | refine XR_a (op_rem rfl rfl (by omega)) rfl rfl ?_
                refine XR_a (op_subN (m := 8) rfl rfl (by omega) (by simp only [inK]; omega)) rfl rfl ?_
                first | refine XR_a (op_remN (n := 8) rfl rfl (by omega)) rfl rfl ?_ | refine XR_a (op_remI rfl rfl (by omega) (by omega)) rfl rfl ?_ | refine XR_a (op_rem rfl rfl (by omega)) rfl rfl ?_
                refine XR_a (op_assign rfl) rfl rfl ?_
                refine XR_nil ?_
                refine X_reg ?_
                refine XR_a (op_assign rfl) rfl rfl ?_
                refine XR_nil ?_
                refine X_blk ?_
                refine X_seq ?_
                refine X_seq ?_
                refine X_reg ?_
                refine XR_a (op_move rfl) rfl rfl ?_
                refine XR_nil ?_
                refine X_then rfl ?_
                refine X_reg ?_
                refine XR_a (op_move rfl) rfl rfl ?_
                refine XR_a (op_move rfl) rfl rfl ?_
                first | refine XR_a (op_addN rfl rfl (by simp only [inK]; omega)) rfl rfl ?_ | refine XR_a (op_addI rfl rfl (by simp only [inK]; omega)) rfl rfl ?_ | refine XR_a (op_add rfl rfl) rfl rfl ?_
                refine XR_a (op_assign rfl) rfl rfl ?_
                refine XR_nil ?_
                refine X_seq ?_
                refine X_reg ?_
                refine XR_a (op_move rfl) rfl rfl ?_
                refine XR_wa (opl_call (rat_spec (st.cell 0 rfl rfl)) rfl (by kernel_rfl)) rfl rfl rfl ?_
                rintro _ _ ⟨rfl, rfl⟩
                refine XR_a (op_move rfl) rfl rfl ?_
                refine XR_a (op_neq rfl rfl) rfl rfl ?_
                refine XR_as (.bool false) (congrArg Value.bool (decide_eq_false (by omega))) ?_
                refine XR_a (op_move rfl) rfl rfl ?_
                refine XR_a (op_move rfl) rfl rfl ?_
                refine XR_wa (opl_call (rleft_spec (st.cell 0 rfl rfl) (st.cell 0 rfl rfl) (by omega) (by omega)) rfl (by kernel_rfl)) rfl rfl rfl ?_
                rintro _ _ ⟨rfl, rfl⟩
                refine XR_a (op_move rfl) rfl rfl ?_
                refine XR_a (op_len rfl rfl rfl) rfl rfl ?_
                refine XR_a (op_move rfl) rfl rfl ?_
                first | refine XR_a (op_subN rfl rfl (by omega) (by simp only [inK]; omega)) rfl rfl ?_ | refine XR_a (op_subI rfl rfl (by simp only [inK]; omega)) rfl rfl ?_ | refine XR_a (op_sub rfl rfl) rfl rfl ?_
                refine XR_a (op_neq rfl rfl) rfl rfl ?_
                refine XR_as (.bool false) (congrArg Value.bool (decide_eq_false (by omega))) ?_
                refine XR_a (op_pick_f rfl rfl) rfl rfl ?_
                refine XR_nil ?_
                refine X_else rfl ?_
                refine X_skip ?_
                refine X_blk ?_
                refine X_reg ?_
                refine XR_a (op_move rfl) rfl rfl ?_
                first | refine XR_a (op_addN (n := 1) rfl rfl (by simp only [inK]; omega)) rfl rfl ?_ | refine XR_a (op_addI rfl rfl (by simp only [inK]; omega)) rfl rfl ?_ | refine XR_a (op_add rfl rfl) rfl rfl ?_
                refine XR_a (op_assign rfl) rfl rfl ?_
                refine XR_nil ?_
                have e : (a + 7) / 8 * 8 = a + (8 - a % 8) % 8 := by omega
                rw [e] at st
                exact X_again (i + 1, a + (8 - a % 8) % 8) (.cons rfl (.cons rfl (.cons rfl (.cons rfl (.cons rfl (.cons rfl (.cons rfl (.nil _)))))))) ⟨st, by simp only; omega, by simp only; omega⟩ (by simp only; omega)
      · refine X_exit rfl ?_
        refine X_seq ?_
        refine X_reg ?_
        refine XR_a (op_move rfl) rfl rfl ?_
        refine XR_wa (opl_call (rat_none _) rfl (by kernel_rfl)) rfl rfl rfl ?_
        rintro _ _ ⟨rfl, rfl⟩
        refine XR_a (op_eql rfl rfl) rfl rfl ?_
        refine XR_a (op_move rfl) rfl rfl ?_
        refine XR_if 170 rfl (fun h => ?_) (fun h => ?_)
        · refine XR_a (op_move rfl) rfl rfl ?_
          refine XR_wa (opl_call (rleft_none _) rfl (by kernel_rfl)) rfl rfl rfl ?_
          rintro _ _ ⟨rfl, rfl⟩
          refine XR_a (op_eql rfl rfl) rfl rfl ?_
          refine XR_a (op_pick_t rfl rfl) rfl rfl ?_
          refine XR_a (op_move rfl) rfl rfl ?_
          refine XR_if 175 rfl (fun h => ?_) (fun h => ?_)
          · refine XR_wa (opl_call (lives03 _) rfl (by kernel_rfl)) rfl rfl rfl ?_
            rintro _ hp ⟨rfl, hx⟩
            refine XR_a (op_pick_t rfl rfl) rfl rfl ?_
            refine XR_a (op_assign rfl) rfl rfl ?_
            refine XR_nil ?_
            refine X_ret (.cons (.tmp rfl) .nil) ?_
            exact ⟨rfl, st.low.trans (hx.mono st.low.size)⟩
          · exact absurd rfl h
        · exact absurd rfl h
end Go.Bn
