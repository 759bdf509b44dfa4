/- The law SlotSpoilt comes to true. -/
import Derived.Test.YtigbhndidohgbaaLaw21
import Derived.Test.YtigbhndidohgbaaFlip
set_option linter.unusedVariables false
set_option linter.unusedSimpArgs false
set_option maxHeartbeats 4000000
set_option maxRecDepth 20000
namespace Go.Bn
open Go Proofs

theorem slotSpoilt_ok {a b c bits : Nat} {at_ : Int} {cl : Bool} {h0 : Heap} (hs : (Slt.mk a b c cl).right) (hb : bits < 4294967296) : Ret Try.prog 10 [.agg #[.int .i64 (a : Int), .int .i64 (b : Int), .int .i64 (c : Int), .bool cl], .int .i64 at_, .int .u32 (bits : Int)] h0 fun v h' => v = .bool true ∧ Ext h0 h' := by
  refine ret_of_X Try.func10 rfl rfl fun w0 hw0 => ?_
  simp only [argE, Nat.zero_add, Nat.reduceAdd]
  have st := St.start h0
  refine X_seq ?_
  refine X_reg ?_
  refine XR_wa (opl_bx rfl rfl) rfl rfl rfl ?_
  rintro _ hp ⟨p, rfl, hnew⟩
  have st := st.new hnew
  refine XR_a (op_assign rfl) rfl rfl ?_
  refine XR_nil ?_
  refine X_seq ?_
  refine X_reg ?_
  refine XR_wa (opl_call (make_spec _) rfl (by kernel_rfl)) rfl rfl rfl ?_
  rintro _ hp ⟨rfl, hx⟩
  replace st := st.ext hx
  refine XR_wa (opl_new (zs := List.replicate 256 (.int .u32 0)) (by kernel_rfl)) rfl rfl rfl ?_
  rintro _ hp ⟨tp, rfl, hnew⟩
  replace st := st.new hnew
  refine XR_wn (opl_store_whole st 0 rfl rfl rfl rfl (by rw [tabV_length]; rfl) tabV_one (by rw [tabV_length, List.length_replicate])) rfl rfl fun _ hp st => ?_
  simp only [List.set_cons_zero, List.set_cons_succ] at st
  refine XR_nil ?_
  refine X_seq ?_
  refine X_reg ?_
  refine XR_a (op_ldA (st.cells 1 rfl) rfl rfl rfl rfl) rfl rfl ?_
  refine XR_wa (opl_call (sput_ok (st.tab 0 rfl) hs) rfl (by kernel_rfl)) rfl rfl rfl ?_
  rintro _ hp ⟨v1, rfl, st2⟩
  replace st := st.join st2
  simp only [List.cons_append, List.nil_append] at st
  obtain ⟨A1, n1, c1, rfl, hlen1, hnc1, _, hrd1⟩ := st.row 0 rfl
  have hbl := (Slt.mk a b c cl).bytes_length
  obtain rfl : n1 = 512 := by rw [List.length_map, hbl] at hlen1; omega
  refine XR_a (op_move rfl) rfl rfl ?_
  refine XR_a (op_extract rfl rfl) rfl rfl ?_
  refine XR_a (op_extract rfl rfl) rfl rfl ?_
  refine XR_a (op_assign rfl) rfl rfl ?_
  refine XR_a (op_assign rfl) rfl rfl ?_
  refine XR_nil ?_
  refine X_seq ?_
  refine X_seq ?_
  refine X_reg ?_
  refine XR_a (op_move rfl) rfl rfl ?_
  refine XR_a (op_neq rfl rfl) rfl rfl ?_
  refine XR_as (.bool false) rfl ?_
  refine XR_a (op_move rfl) rfl rfl ?_
  refine XR_a (op_move rfl) rfl rfl ?_
  refine XR_a (op_lss rfl rfl) rfl rfl ?_
  refine XR_a (op_pick_f rfl rfl) rfl rfl ?_
  refine XR_a (op_move rfl) rfl rfl ?_
  refine XR_if 25 rfl (fun h => ?_) (fun h => ?_)
  · refine XR_no rfl rfl ?_
    refine XR_no rfl rfl ?_
    refine XR_a (op_pick_t rfl rfl) rfl rfl ?_
    refine XR_nil ?_
    refine X_then rfl ?_
    refine X_seq ?_
    refine X_reg ?_
    refine XR_a (op_move rfl) rfl rfl ?_
    refine XR_a (op_neq rfl rfl) rfl rfl ?_
    refine XR_as (.bool false) rfl ?_
    refine XR_a (op_ldA (st.cells 2 rfl) rfl rfl rfl rfl) rfl rfl ?_
    refine XR_wa (opl_call (sright_ref _ _ _ _ _) rfl (by kernel_rfl)) rfl rfl rfl ?_
    rintro _ hp ⟨rfl, hx3⟩
    replace st := st.ext hx3
    rw [decide_eq_true hs]
    refine XR_a (op_not rfl) rfl rfl ?_
    refine XR_a (op_eqlB rfl rfl rfl) rfl rfl ?_
    refine XR_as (.bool true) rfl ?_
    refine XR_a (op_move rfl) rfl rfl ?_
    refine XR_wa (opl_call (lives21 _) rfl (by kernel_rfl)) rfl rfl rfl ?_
    rintro _ hp ⟨rfl, hx⟩
    refine XR_a (op_pick_t rfl rfl) rfl rfl ?_
    refine XR_a (op_assign rfl) rfl rfl ?_
    refine XR_nil ?_
    refine X_ret (.cons (.tmp rfl) .nil) ?_
    exact ⟨rfl, st.low.trans (hx.mono st.low.size)⟩
  · refine XR_a (op_move rfl) rfl rfl ?_
    refine XR_a (op_gtr rfl rfl) rfl rfl ?_
    refine XR_a (op_pick_f rfl rfl) rfl rfl ?_
    refine XR_nil ?_
    refine X_if rfl (fun h => ?_) (fun h => ?_)
    · refine X_seq ?_
      refine X_reg ?_
      refine XR_a (op_move rfl) rfl rfl ?_
      refine XR_a (op_neq rfl rfl) rfl rfl ?_
      refine XR_as (.bool false) rfl ?_
      refine XR_a (op_ldA (st.cells 2 rfl) rfl rfl rfl rfl) rfl rfl ?_
      refine XR_wa (opl_call (sright_ref _ _ _ _ _) rfl (by kernel_rfl)) rfl rfl rfl ?_
      rintro _ hp ⟨rfl, hx3⟩
      replace st := st.ext hx3
      rw [decide_eq_true hs]
      refine XR_a (op_not rfl) rfl rfl ?_
      refine XR_a (op_eqlB rfl rfl rfl) rfl rfl ?_
      refine XR_as (.bool true) rfl ?_
      refine XR_a (op_move rfl) rfl rfl ?_
      refine XR_wa (opl_call (lives21 _) rfl (by kernel_rfl)) rfl rfl rfl ?_
      rintro _ hp ⟨rfl, hx⟩
      refine XR_a (op_pick_t rfl rfl) rfl rfl ?_
      refine XR_a (op_assign rfl) rfl rfl ?_
      refine XR_nil ?_
      refine X_ret (.cons (.tmp rfl) .nil) ?_
      exact ⟨rfl, st.low.trans (hx.mono st.low.size)⟩
    · refine X_skip ?_
      refine X_seq ?_
      obtain ⟨q, rfl⟩ : ∃ x : Nat, at_ = x := ⟨at_.toNat, by omega⟩
      refine X_reg ?_
      refine XR_a (op_move rfl) rfl rfl ?_
      refine XR_a (op_move rfl) rfl rfl ?_
      refine XR_a (op_move rfl) rfl rfl ?_
      refine XR_wa (opl_call (flip_ref hrd1 hbl (by omega) hb (by omega)) rfl (by kernel_rfl)) rfl rfl rfl ?_
      rintro v2 hp st2
      obtain ⟨A2, n2, c2, rfl, hlen2, hnc2, _, hrd2⟩ := st2.row 0 rfl
      obtain rfl : n2 = 512 := by rw [List.length_map, flipK_length, hbl] at hlen2; omega
      replace st := st.join st2
      simp only [List.cons_append, List.nil_append] at st
      have hfl : (flipK (Slt.mk a b c cl).bytes q bits 32).length = 512 := by rw [flipK_length, hbl]
      refine XR_a (op_assign rfl) rfl rfl ?_
      refine XR_nil ?_
      refine X_seq ?_
      refine X_reg ?_
      refine XR_a (op_move rfl) rfl rfl ?_
      refine XR_wa (opl_call (stake_spec (st.tab 2 rfl) hrd2 hfl (by omega) hnc2) rfl (by kernel_rfl)) rfl rfl rfl ?_
      rintro _ hp ⟨rfl, hx3⟩
      replace st := st.ext hx3
      obtain ⟨T, hT⟩ : ∃ T, slotTake (flipK (Slt.mk a b c cl).bytes q bits 32) = T := ⟨_, rfl⟩
      rw [hT]
      refine XR_a (op_move rfl) rfl rfl ?_
      refine XR_a (op_extract rfl rfl) rfl rfl ?_
      refine XR_a (op_extract rfl rfl) rfl rfl ?_
      refine XR_wa (opl_new rfl) rfl rfl rfl ?_
      rintro _ hp ⟨p8, rfl, hnew⟩
      replace st := st.new hnew
      refine XR_wn (opl_store_whole (us := sltC T.1) st 0 rfl rfl rfl rfl rfl (sltC_one _) rfl) rfl rfl fun _ hp st => ?_
      simp only [List.set_cons_zero, List.set_cons_succ] at st
      refine XR_a (op_assign rfl) rfl rfl ?_
      refine XR_nil ?_
      refine X_seq ?_
      refine X_seq ?_
      refine X_reg ?_
      refine XR_a (op_move rfl) rfl rfl ?_
      refine XR_a (op_move rfl) rfl rfl ?_
      refine XR_wa (opl_call (same_ref (st.rdS 2 rfl).2 hbl (st.rdS 1 rfl).2 hfl) rfl (by kernel_rfl)) rfl rfl rfl ?_
      rintro _ _ ⟨rfl, rfl⟩
      refine XR_nil ?_
      refine X_if rfl (fun h => ?_) (fun h => ?_)
      · have e : T = (Slt.mk a b c cl, 0) := by rw [← hT, ← h]; exact slotTake_bytes _ hs
        rw [e] at st ⊢
        refine X_seq ?_
        refine X_reg ?_
        refine XR_a (op_move rfl) rfl rfl ?_
        refine XR_a (op_eql rfl rfl) rfl rfl ?_
        refine XR_as (.bool true) rfl ?_
        refine XR_a (op_move rfl) rfl rfl ?_
        refine XR_a (op_ldA (st.cells 0 rfl) rfl rfl rfl rfl) rfl rfl ?_
        refine XR_a (op_ldA (st.cells 4 rfl) rfl rfl rfl rfl) rfl rfl ?_
        refine XR_a (op_eqlH rfl rfl (eq_slot _ _ _ _ _ _ _ _) (by kernel_rfl)) rfl rfl ?_
        refine XR_as (.bool true) (by simp) ?_
        refine XR_a (op_pick_t rfl rfl) rfl rfl ?_
        refine XR_a (op_move rfl) rfl rfl ?_
        refine XR_wa (opl_call (lives21 _) rfl (by kernel_rfl)) rfl rfl rfl ?_
        rintro _ hp ⟨rfl, hx⟩
        refine XR_a (op_pick_t rfl rfl) rfl rfl ?_
        refine XR_a (op_assign rfl) rfl rfl ?_
        refine XR_nil ?_
        refine X_ret (.cons (.tmp rfl) .nil) ?_
        exact ⟨rfl, st.low.trans (hx.mono st.low.size)⟩
      · have e := slot_spoilt _ hs q bits hb (fun hh => h hh.symm)
        have e2 := slotTake_nil _ e
        rw [hT] at e e2
        rw [e2] at st
        refine X_skip ?_
        refine X_seq ?_
        refine X_reg ?_
        refine XR_a (op_move rfl) rfl rfl ?_
        refine XR_a (op_neq rfl rfl) rfl rfl ?_
        refine XR_as (.bool true) (congrArg Value.bool (decide_eq_true e)) ?_
        refine XR_a (op_move rfl) rfl rfl ?_
        refine XR_a (op_ldA (st.cells 0 rfl) rfl rfl rfl rfl) rfl rfl ?_
        refine XR_a (op_build (ps := []) (cs := (sltC Slt.nil).toArray) rfl rfl) rfl rfl ?_
        refine XR_a (op_eqlH rfl rfl (eq_slot 0 0 0 0 0 0 false false) (by kernel_rfl)) rfl rfl ?_
        refine XR_as (.bool true) (by simp) ?_
        refine XR_a (op_pick_t rfl rfl) rfl rfl ?_
        refine XR_a (op_move rfl) rfl rfl ?_
        refine XR_wa (opl_call (lives21 _) rfl (by kernel_rfl)) rfl rfl rfl ?_
        rintro _ hp ⟨rfl, hx⟩
        refine XR_a (op_pick_t rfl rfl) rfl rfl ?_
        refine XR_a (op_assign rfl) rfl rfl ?_
        refine XR_nil ?_
        refine X_ret (.cons (.tmp rfl) .nil) ?_
        exact ⟨rfl, st.low.trans (hx.mono st.low.size)⟩

theorem slotSpoilt_bad {a b c : Int} {bits : Value} {at_ : Value} {cl : Bool} {h0 : Heap} (hs : ¬ (Slt.mk a b c cl).right) : Ret Try.prog 10 [.agg #[.int .i64 a, .int .i64 b, .int .i64 c, .bool cl], at_, bits] h0 fun v h' => v = .bool true ∧ Ext h0 h' := by
  refine ret_of_X Try.func10 rfl rfl fun w0 hw0 => ?_
  simp only [argE, Nat.zero_add, Nat.reduceAdd]
  have st := St.start h0
  refine X_seq ?_
  refine X_reg ?_
  refine XR_wa (opl_bx rfl rfl) rfl rfl rfl ?_
  rintro _ hp ⟨p, rfl, hnew⟩
  have st := st.new hnew
  refine XR_a (op_assign rfl) rfl rfl ?_
  refine XR_nil ?_
  refine X_seq ?_
  refine X_reg ?_
  refine XR_wa (opl_call (make_spec _) rfl (by kernel_rfl)) rfl rfl rfl ?_
  rintro _ hp ⟨rfl, hx⟩
  replace st := st.ext hx
  refine XR_wa (opl_new (zs := List.replicate 256 (.int .u32 0)) (by kernel_rfl)) rfl rfl rfl ?_
  rintro _ hp ⟨tp, rfl, hnew⟩
  replace st := st.new hnew
  refine XR_wn (opl_store_whole st 0 rfl rfl rfl rfl (by rw [tabV_length]; rfl) tabV_one (by rw [tabV_length, List.length_replicate])) rfl rfl fun _ hp st => ?_
  simp only [List.set_cons_zero, List.set_cons_succ] at st
  refine XR_nil ?_
  refine X_seq ?_
  refine X_reg ?_
  refine XR_a (op_ldA (st.cells 1 rfl) rfl rfl rfl rfl) rfl rfl ?_
  refine XR_wa (opl_call (sput_bad hs) rfl (by kernel_rfl)) rfl rfl rfl ?_
  rintro _ hp ⟨rfl, hx2⟩
  replace st := st.ext hx2
  refine XR_a (op_move rfl) rfl rfl ?_
  refine XR_a (op_extract rfl rfl) rfl rfl ?_
  refine XR_a (op_extract rfl rfl) rfl rfl ?_
  refine XR_a (op_assign rfl) rfl rfl ?_
  refine XR_a (op_assign rfl) rfl rfl ?_
  refine XR_nil ?_
  refine X_seq ?_
  refine X_seq ?_
  refine X_reg ?_
  refine XR_a (op_move rfl) rfl rfl ?_
  refine XR_a (op_neq rfl rfl) rfl rfl ?_
  refine XR_as (.bool true) rfl ?_
  refine XR_a (op_move rfl) rfl rfl ?_
  refine XR_no rfl rfl ?_
  refine XR_no rfl rfl ?_
  refine XR_a (op_pick_t rfl rfl) rfl rfl ?_
  refine XR_a (op_move rfl) rfl rfl ?_
  refine XR_no rfl rfl ?_
  refine XR_no rfl rfl ?_
  refine XR_a (op_pick_t rfl rfl) rfl rfl ?_
  refine XR_nil ?_
  refine X_then rfl ?_
  refine X_seq ?_
  refine X_reg ?_
  refine XR_a (op_move rfl) rfl rfl ?_
  refine XR_a (op_neq rfl rfl) rfl rfl ?_
  refine XR_as (.bool true) rfl ?_
  refine XR_a (op_ldA (st.cells 1 rfl) rfl rfl rfl rfl) rfl rfl ?_
  refine XR_wa (opl_call (sright_ref _ _ _ _ _) rfl (by kernel_rfl)) rfl rfl rfl ?_
  rintro _ hp ⟨rfl, hx3⟩
  replace st := st.ext hx3
  rw [decide_eq_false hs]
  refine XR_a (op_not rfl) rfl rfl ?_
  refine XR_a (op_eqlB rfl rfl rfl) rfl rfl ?_
  refine XR_as (.bool true) rfl ?_
  refine XR_a (op_move rfl) rfl rfl ?_
  refine XR_wa (opl_call (lives21 _) rfl (by kernel_rfl)) rfl rfl rfl ?_
  rintro _ hp ⟨rfl, hx⟩
  refine XR_a (op_pick_t rfl rfl) rfl rfl ?_
  refine XR_a (op_assign rfl) rfl rfl ?_
  refine XR_nil ?_
  refine X_ret (.cons (.tmp rfl) .nil) ?_
  exact ⟨rfl, st.low.trans (hx.mono st.low.size)⟩
theorem slotSpoilt_ret {a b c : Int} {bits : Nat} {at_ : Int} {cl : Bool} {h0 : Heap} (hb : bits < 4294967296) : Ret Try.prog 10 [.agg #[.int .i64 a, .int .i64 b, .int .i64 c, .bool cl], .int .i64 at_, .int .u32 (bits : Int)] h0 fun v h' => v = .bool true ∧ Ext h0 h' := by
  by_cases hs : (Slt.mk a b c cl).right
  · have hs' := hs
    simp only [Slt.right] at hs'
    have h4 : 0 ≤ c := by obtain ⟨_, _, _, _, h5⟩ := hs'; split at h5 <;> omega
    obtain ⟨a, rfl⟩ : ∃ x : Nat, a = x := ⟨a.toNat, by omega⟩
    obtain ⟨b, rfl⟩ : ∃ x : Nat, b = x := ⟨b.toNat, by omega⟩
    obtain ⟨c, rfl⟩ : ∃ x : Nat, c = x := ⟨c.toNat, by omega⟩
    exact slotSpoilt_ok hs hb
  · exact slotSpoilt_bad hs
end Go.Bn
