/- The law SlotNexts comes to true. -/
import Derived.Test.YtigbhndidohgbaaLaw21
set_option linter.unusedVariables false
set_option linter.unusedSimpArgs false
set_option maxHeartbeats 4000000
set_option maxRecDepth 20000
namespace Go.Bn
open Go Proofs

/-- The slot behind another one, made out of n. -/
def nextS (s n : Slt) : Slt × Bool := if s.right ∧ s.seq ≠ 2147483647 ∧ (Slt.mk (s.seq + 1) n.en n.dir n.cl).right then (⟨s.seq + 1, n.en, n.dir, n.cl⟩, true) else (Slt.nil, false)

theorem snext_spec (a b c a' b' c' : Int) (d d' : Bool) (h0 : Heap) : Ret Try.prog 75 [.agg #[.int .i64 a, .int .i64 b, .int .i64 c, .bool d], .agg #[.int .i64 a', .int .i64 b', .int .i64 c', .bool d']] h0 fun v h' =>
    v = retVal [.agg (sltC (nextS ⟨a, b, c, d⟩ ⟨a', b', c', d'⟩).1).toArray, .bool (nextS ⟨a, b, c, d⟩ ⟨a', b', c', d'⟩).2] ∧ Ext h0 h' := by
  refine ret_of_X Try.func75 rfl rfl fun w0 hw0 => ?_
  simp only [argE, Nat.zero_add, Nat.reduceAdd]
  have st := St.start h0
  obtain ⟨T, hT⟩ : ∃ T, nextS ⟨a, b, c, d⟩ ⟨a', b', c', d'⟩ = T := ⟨_, rfl⟩
  rw [hT]
  unfold nextS at hT
  simp only at hT
  refine X_seq ?_
  refine X_reg ?_
  refine XR_wa (opl_bx rfl rfl) rfl rfl rfl ?_
  rintro _ hp ⟨p, rfl, hnew⟩
  have st := st.new hnew
  refine XR_wa (opl_bx rfl rfl) rfl rfl rfl ?_
  rintro _ hp ⟨p, rfl, hnew⟩
  have st := st.new hnew
  refine XR_wa (opl_new rfl) rfl rfl rfl ?_
  rintro _ hp ⟨p4, rfl, hnew⟩
  replace st := st.new hnew
  refine XR_a (op_assign rfl) rfl rfl ?_
  refine XR_nil ?_
  refine X_seq ?_
  refine X_seq ?_
  refine X_reg ?_
  refine XR_a (op_ldA (st.cells 2 rfl) rfl rfl rfl rfl) rfl rfl ?_
  refine XR_wa (opl_call (sright_spec _ _ _ _ _) rfl (by kernel_rfl)) rfl rfl rfl ?_
  rintro _ hp ⟨rfl, hx⟩
  replace st := st.ext hx
  refine XR_a (op_notd rfl) rfl rfl ?_
  refine XR_a (op_move rfl) rfl rfl ?_
  refine XR_if 9 rfl (fun h => ?_) (fun h => ?_)
  · refine XR_no rfl rfl ?_
    refine XR_no rfl rfl ?_
    refine XR_no rfl rfl ?_
    refine XR_a (op_pick_t rfl rfl) rfl rfl ?_
    refine XR_nil ?_
    refine X_then rfl ?_
    refine X_seq ?_
    refine X_reg ?_
    refine XR_a (op_build (ps := []) (cs := (sltC Slt.nil).toArray) rfl rfl) rfl rfl ?_
    refine XR_wn (opl_store_whole (us := sltC Slt.nil) st 0 rfl rfl rfl rfl rfl (sltC_one _) rfl) rfl rfl fun _ hp st => ?_
    simp only [List.set_cons_zero, List.set_cons_succ] at st
    refine XR_a (op_assign rfl) rfl rfl ?_
    refine XR_nil ?_
    refine X_ret (.cons (RV_agg (vs := sltC Slt.nil) rfl rfl rfl (st.cells 0 rfl)) (.cons (.tmp rfl) .nil)) ?_
    rw [if_neg (fun hh => h hh.1)] at hT
    exact ⟨by rw [← hT], st.low⟩
  · first | refine XR_a (op_field0 rfl rfl) rfl rfl ?_ | refine XR_a (op_fieldn rfl rfl) rfl rfl ?_
    refine XR_a (op_ld (st.cell 2 (i := 0) rfl rfl) rfl rfl rfl) rfl rfl ?_
    refine XR_a (op_eql rfl rfl) rfl rfl ?_
    refine XR_a (op_pick_f rfl rfl) rfl rfl ?_
    refine XR_nil ?_
    refine X_if rfl (fun h => ?_) (fun h => ?_)
    · refine X_seq ?_
      refine X_reg ?_
      refine XR_a (op_build (ps := []) (cs := (sltC Slt.nil).toArray) rfl rfl) rfl rfl ?_
      refine XR_wn (opl_store_whole (us := sltC Slt.nil) st 0 rfl rfl rfl rfl rfl (sltC_one _) rfl) rfl rfl fun _ hp st => ?_
      simp only [List.set_cons_zero, List.set_cons_succ] at st
      refine XR_a (op_assign rfl) rfl rfl ?_
      refine XR_nil ?_
      refine X_ret (.cons (RV_agg (vs := sltC Slt.nil) rfl rfl rfl (st.cells 0 rfl)) (.cons (.tmp rfl) .nil)) ?_
      rw [if_neg (fun hh => hh.2.1 h)] at hT
      exact ⟨by rw [← hT], st.low⟩
    · refine X_skip ?_
      refine X_seq ?_
      rename_i hr0
      have hne : a ≠ 2147483647 := h
      have hr := Decidable.not_not.1 hr0
      have hr2 := hr
      simp only [Slt.right] at hr2
      refine X_reg ?_
      first | refine XR_a (op_field0 rfl rfl) rfl rfl ?_ | refine XR_a (op_fieldn rfl rfl) rfl rfl ?_
      refine XR_a (op_ld (st.cell 2 (i := 0) rfl rfl) rfl rfl rfl) rfl rfl ?_
      refine XR_a (op_addI rfl rfl (by simp only [inK]; omega)) rfl rfl ?_
      first | refine XR_a (op_field0 rfl rfl) rfl rfl ?_ | refine XR_a (op_fieldn rfl rfl) rfl rfl ?_
      refine XR_wn (opl_store_pt st 1 rfl rfl rfl rfl rfl (rfl)) rfl rfl fun _ hp st => ?_
      simp only [List.set_cons_zero, List.set_cons_succ] at st
      refine XR_nil ?_
      refine X_seq ?_
      refine X_seq ?_
      refine X_reg ?_
      refine XR_a (op_ldA (st.cells 1 rfl) rfl rfl rfl rfl) rfl rfl ?_
      refine XR_wa (opl_call (sright_spec _ _ _ _ _) rfl (by kernel_rfl)) rfl rfl rfl ?_
      rintro _ hp ⟨rfl, hx⟩
      replace st := st.ext hx
      refine XR_a (op_notd rfl) rfl rfl ?_
      refine XR_nil ?_
      refine X_if rfl (fun h => ?_) (fun h => ?_)
      · refine X_seq ?_
        refine X_reg ?_
        refine XR_a (op_build (ps := []) (cs := (sltC Slt.nil).toArray) rfl rfl) rfl rfl ?_
        refine XR_wn (opl_store_whole (us := sltC Slt.nil) st 0 rfl rfl rfl rfl rfl (sltC_one _) rfl) rfl rfl fun _ hp st => ?_
        simp only [List.set_cons_zero, List.set_cons_succ] at st
        refine XR_a (op_assign rfl) rfl rfl ?_
        refine XR_nil ?_
        refine X_ret (.cons (RV_agg (vs := sltC Slt.nil) rfl rfl rfl (st.cells 0 rfl)) (.cons (.tmp rfl) .nil)) ?_
        rw [if_neg (fun hh => h hh.2.2)] at hT
        exact ⟨by rw [← hT], st.low⟩
      · refine X_skip ?_
        refine X_seq ?_
        refine X_reg ?_
        refine XR_a (op_ldA (st.cells 1 rfl) rfl rfl rfl rfl) rfl rfl ?_
        refine XR_wn (opl_store_whole (us := sltC (Slt.mk (a + 1) b' c' d')) st 0 rfl rfl rfl rfl rfl (sltC_one _) rfl) rfl rfl fun _ hp st => ?_
        simp only [List.set_cons_zero, List.set_cons_succ] at st
        refine XR_a (op_assign rfl) rfl rfl ?_
        refine XR_nil ?_
        refine X_ret (.cons (RV_agg (vs := sltC (Slt.mk (a + 1) b' c' d')) rfl rfl rfl (st.cells 0 rfl)) (.cons (.tmp rfl) .nil)) ?_
        rw [if_pos ⟨hr, hne, Decidable.not_not.1 h⟩] at hT
        exact ⟨by rw [← hT], st.low⟩

theorem sdirty_spec (a b c : Int) (d : Bool) (h0 : Heap) : Ret Try.prog 51 [.agg #[.int .i64 a, .int .i64 b, .int .i64 c, .bool d]] h0 fun v h' =>
    v = retVal [.agg (sltC (nextS ⟨a, b, c, d⟩ ⟨0, b, 0, false⟩).1).toArray, .bool (nextS ⟨a, b, c, d⟩ ⟨0, b, 0, false⟩).2] ∧ Ext h0 h' := by
  refine ret_of_X Try.func51 rfl rfl fun w0 hw0 => ?_
  simp only [argE, Nat.zero_add, Nat.reduceAdd]
  have st := St.start h0
  refine X_seq ?_
  refine X_reg ?_
  refine XR_wa (opl_bx rfl rfl) rfl rfl rfl ?_
  rintro _ hp ⟨p, rfl, hnew⟩
  have st := st.new hnew
  refine XR_wa (opl_new rfl) rfl rfl rfl ?_
  rintro _ hp ⟨p4, rfl, hnew⟩
  replace st := st.new hnew
  refine XR_a (op_assign rfl) rfl rfl ?_
  refine XR_nil ?_
  refine X_seq ?_
  refine X_reg ?_
  refine XR_a (op_ldA (st.cells 1 rfl) rfl rfl rfl rfl) rfl rfl ?_
  first | refine XR_a (op_field0 rfl rfl) rfl rfl ?_ | refine XR_a (op_fieldn rfl rfl) rfl rfl ?_
  refine XR_a (op_ld (st.cell 1 (i := 1) rfl rfl) rfl rfl rfl) rfl rfl ?_
  refine XR_a (op_build (ps := [(1, .int .i64 b)]) (cs := #[.int .i64 0, .int .i64 b, .int .i64 0, .bool false]) rfl rfl) rfl rfl ?_
  refine XR_wa (opl_call (snext_spec _ _ _ _ _ _ _ _ _) rfl (by kernel_rfl)) rfl rfl rfl ?_
  rintro _ hp ⟨rfl, hx⟩
  replace st := st.ext hx
  obtain ⟨T, hT⟩ : ∃ T, nextS ⟨a, b, c, d⟩ ⟨0, b, 0, false⟩ = T := ⟨_, rfl⟩
  rw [hT]
  refine XR_a (op_extract rfl rfl) rfl rfl ?_
  refine XR_a (op_extract rfl rfl) rfl rfl ?_
  refine XR_wn (opl_store_whole (us := sltC T.1) st 0 rfl rfl rfl rfl rfl (sltC_one _) rfl) rfl rfl fun _ hp st => ?_
  simp only [List.set_cons_zero, List.set_cons_succ] at st
  refine XR_a (op_assign rfl) rfl rfl ?_
  refine XR_nil ?_
  refine X_ret (.cons (RV_agg (vs := sltC T.1) rfl rfl rfl (st.cells 0 rfl)) (.cons (.tmp rfl) .nil)) ?_
  exact ⟨rfl, st.low⟩

theorem sclean_spec (a b c e k : Int) (d : Bool) (h0 : Heap) : Ret Try.prog 52 [.agg #[.int .i64 a, .int .i64 b, .int .i64 c, .bool d], .int .i64 e, .int .i64 k] h0 fun v h' =>
    v = retVal [.agg (sltC (nextS ⟨a, b, c, d⟩ ⟨0, e, k, true⟩).1).toArray, .bool (nextS ⟨a, b, c, d⟩ ⟨0, e, k, true⟩).2] ∧ Ext h0 h' := by
  refine ret_of_X Try.func52 rfl rfl fun w0 hw0 => ?_
  simp only [argE, Nat.zero_add, Nat.reduceAdd]
  have st := St.start h0
  refine X_seq ?_
  refine X_reg ?_
  refine XR_wa (opl_bx rfl rfl) rfl rfl rfl ?_
  rintro _ hp ⟨p, rfl, hnew⟩
  have st := st.new hnew
  refine XR_wa (opl_new rfl) rfl rfl rfl ?_
  rintro _ hp ⟨p4, rfl, hnew⟩
  replace st := st.new hnew
  refine XR_a (op_assign rfl) rfl rfl ?_
  refine XR_nil ?_
  refine X_seq ?_
  refine X_reg ?_
  refine XR_a (op_ldA (st.cells 1 rfl) rfl rfl rfl rfl) rfl rfl ?_
  refine XR_a (op_move rfl) rfl rfl ?_
  refine XR_a (op_move rfl) rfl rfl ?_
  refine XR_a (op_build (ps := [(1, .int .i64 e), (2, .int .i64 k), (3, .bool true)]) (cs := #[.int .i64 0, .int .i64 e, .int .i64 k, .bool true]) rfl rfl) rfl rfl ?_
  refine XR_wa (opl_call (snext_spec _ _ _ _ _ _ _ _ _) rfl (by kernel_rfl)) rfl rfl rfl ?_
  rintro _ hp ⟨rfl, hx⟩
  replace st := st.ext hx
  obtain ⟨T, hT⟩ : ∃ T, nextS ⟨a, b, c, d⟩ ⟨0, e, k, true⟩ = T := ⟨_, rfl⟩
  rw [hT]
  refine XR_a (op_extract rfl rfl) rfl rfl ?_
  refine XR_a (op_extract rfl rfl) rfl rfl ?_
  refine XR_wn (opl_store_whole (us := sltC T.1) st 0 rfl rfl rfl rfl rfl (sltC_one _) rfl) rfl rfl fun _ hp st => ?_
  simp only [List.set_cons_zero, List.set_cons_succ] at st
  refine XR_a (op_assign rfl) rfl rfl ?_
  refine XR_nil ?_
  refine X_ret (.cons (RV_agg (vs := sltC T.1) rfl rfl rfl (st.cells 0 rfl)) (.cons (.tmp rfl) .nil)) ?_
  exact ⟨rfl, st.low⟩

theorem next_no {s n : Slt} (h : ¬ (s.right ∧ s.seq < 2147483647)) : nextS s n = (Slt.nil, false) := by
  unfold nextS
  rw [if_neg]
  rintro ⟨h1, h2, _⟩
  have h3 := h1
  simp only [Slt.right] at h3
  exact h ⟨h1, by omega⟩
theorem next_yes {s n : Slt} (h1 : s.right) (h2 : s.seq < 2147483647) : nextS s n = if (Slt.mk 1 n.en n.dir n.cl).right then (⟨s.seq + 1, n.en, n.dir, n.cl⟩, true) else (Slt.nil, false) := by
  have h3 := h1
  simp only [Slt.right] at h3
  have e : (s.right ∧ s.seq ≠ 2147483647 ∧ (Slt.mk (s.seq + 1) n.en n.dir n.cl).right) ↔ (Slt.mk 1 n.en n.dir n.cl).right := by
    constructor
    · rintro ⟨_, _, h⟩
      simp only [Slt.right] at h ⊢
      exact ⟨by omega, by omega, h.2.2.1, h.2.2.2.1, h.2.2.2.2⟩
    · intro h
      refine ⟨h1, by omega, ?_⟩
      simp only [Slt.right] at h ⊢
      exact ⟨by omega, by omega, h.2.2.1, h.2.2.2.1, h.2.2.2.2⟩
  unfold nextS
  by_cases hh : (Slt.mk 1 n.en n.dir n.cl).right
  · rw [if_pos hh, if_pos (e.2 hh)]
  · rw [if_neg hh, if_neg (fun g => hh (e.1 g))]

theorem slotNexts_ret {a b c e k : Int} {d : Bool} {h0 : Heap} (ha : inK .i64 a) : Ret Try.prog 12 [.agg #[.int .i64 a, .int .i64 b, .int .i64 c, .bool d], .int .i64 e, .int .i64 k] h0 fun v h' => v = .bool true ∧ Ext h0 h' := by
  refine ret_of_X Try.func12 rfl rfl fun w0 hw0 => ?_
  simp only [argE, Nat.zero_add, Nat.reduceAdd]
  have st := St.start h0
  have no1 := next_no (s := ⟨a, b, c, d⟩) (n := ⟨0, b, 0, false⟩)
  have no2 := next_no (s := ⟨a, b, c, d⟩) (n := ⟨0, e, k, true⟩)
  have yes1 := next_yes (s := ⟨a, b, c, d⟩) (n := ⟨0, b, 0, false⟩)
  have yes2 := next_yes (s := ⟨a, b, c, d⟩) (n := ⟨0, e, k, true⟩)
  simp only at no1 no2 yes1 yes2
  obtain ⟨T1, hT1⟩ : ∃ T, nextS ⟨a, b, c, d⟩ ⟨0, b, 0, false⟩ = T := ⟨_, rfl⟩
  obtain ⟨T2, hT2⟩ : ∃ T, nextS ⟨a, b, c, d⟩ ⟨0, e, k, true⟩ = T := ⟨_, rfl⟩
  rw [hT1] at no1 yes1
  rw [hT2] at no2 yes2
  refine X_seq ?_
  refine X_reg ?_
  refine XR_wa (opl_bx rfl rfl) rfl rfl rfl ?_
  rintro _ hp ⟨p, rfl, hnew⟩
  have st := st.new hnew
  refine XR_a (op_assign rfl) rfl rfl ?_
  refine XR_nil ?_
  refine X_seq ?_
  refine X_reg ?_
  refine XR_a (op_ldA (st.cells 0 rfl) rfl rfl rfl rfl) rfl rfl ?_
  refine XR_wa (opl_call (sdirty_spec _ _ _ _ _) rfl (by kernel_rfl)) rfl rfl rfl ?_
  rintro _ hp ⟨rfl, hx⟩
  replace st := st.ext hx
  rw [hT1]
  refine XR_a (op_move rfl) rfl rfl ?_
  refine XR_a (op_extract rfl rfl) rfl rfl ?_
  refine XR_a (op_extract rfl rfl) rfl rfl ?_
  refine XR_wa (opl_new rfl) rfl rfl rfl ?_
  rintro _ hp ⟨p7, rfl, hnew⟩
  replace st := st.new hnew
  refine XR_wn (opl_store_whole (us := sltC T1.1) st 0 rfl rfl rfl rfl rfl (sltC_one _) rfl) rfl rfl fun _ hp st => ?_
  simp only [List.set_cons_zero, List.set_cons_succ] at st
  refine XR_a (op_assign rfl) rfl rfl ?_
  refine XR_nil ?_
  refine X_seq ?_
  refine X_reg ?_
  refine XR_a (op_ldA (st.cells 1 rfl) rfl rfl rfl rfl) rfl rfl ?_
  refine XR_a (op_move rfl) rfl rfl ?_
  refine XR_a (op_move rfl) rfl rfl ?_
  refine XR_wa (opl_call (sclean_spec _ _ _ _ _ _ _) rfl (by kernel_rfl)) rfl rfl rfl ?_
  rintro _ hp ⟨rfl, hx⟩
  replace st := st.ext hx
  rw [hT2]
  refine XR_a (op_move rfl) rfl rfl ?_
  refine XR_a (op_extract rfl rfl) rfl rfl ?_
  refine XR_a (op_extract rfl rfl) rfl rfl ?_
  refine XR_wa (opl_new rfl) rfl rfl rfl ?_
  rintro _ hp ⟨p9, rfl, hnew⟩
  replace st := st.new hnew
  refine XR_wn (opl_store_whole (us := sltC T2.1) st 0 rfl rfl rfl rfl rfl (sltC_one _) rfl) rfl rfl fun _ hp st => ?_
  simp only [List.set_cons_zero, List.set_cons_succ] at st
  refine XR_a (op_assign rfl) rfl rfl ?_
  refine XR_nil ?_
  refine X_seq ?_
  refine X_reg ?_
  first | refine XR_a (op_field0 rfl rfl) rfl rfl ?_ | refine XR_a (op_fieldn rfl rfl) rfl rfl ?_
  refine XR_a (op_ld (st.cell 2 (i := 1) rfl rfl) rfl rfl rfl) rfl rfl ?_
  refine XR_a (op_build (ps := [(0, .int .i64 1), (1, .int .i64 b)]) (cs := #[.int .i64 1, .int .i64 b, .int .i64 0, .bool false]) rfl rfl) rfl rfl ?_
  refine XR_wa (opl_new rfl) rfl rfl rfl ?_
  rintro _ hp ⟨p11, rfl, hnew⟩
  replace st := st.new hnew
  refine XR_wn (opl_store_whole (us := sltC (Slt.mk 1 b 0 false)) st 0 rfl rfl rfl rfl rfl (sltC_one _) rfl) rfl rfl fun _ hp st => ?_
  simp only [List.set_cons_zero, List.set_cons_succ] at st
  refine XR_nil ?_
  refine X_seq ?_
  refine X_reg ?_
  refine XR_a (op_move rfl) rfl rfl ?_
  refine XR_a (op_move rfl) rfl rfl ?_
  refine XR_a (op_build (ps := [(0, .int .i64 1), (1, .int .i64 e), (2, .int .i64 k), (3, .bool true)]) (cs := #[.int .i64 1, .int .i64 e, .int .i64 k, .bool true]) rfl rfl) rfl rfl ?_
  refine XR_wa (opl_new rfl) rfl rfl rfl ?_
  rintro _ hp ⟨p12, rfl, hnew⟩
  replace st := st.new hnew
  refine XR_wn (opl_store_whole (us := sltC (Slt.mk 1 e k true)) st 0 rfl rfl rfl rfl rfl (sltC_one _) rfl) rfl rfl fun _ hp st => ?_
  simp only [List.set_cons_zero, List.set_cons_succ] at st
  refine XR_nil ?_
  refine X_seq ?_
  refine X_reg ?_
  refine XR_a (op_ldA (st.cells 4 rfl) rfl rfl rfl rfl) rfl rfl ?_
  refine XR_wa (opl_call (sright_ref _ _ _ _ _) rfl (by kernel_rfl)) rfl rfl rfl ?_
  rintro _ hp ⟨rfl, hx⟩
  replace st := st.ext hx
  refine XR_a (op_move rfl) rfl rfl ?_
  refine XR_if 34 rfl (fun h => ?_) (fun h => ?_)
  · have hr := h
    first | refine XR_a (op_field0 rfl rfl) rfl rfl ?_ | refine XR_a (op_fieldn rfl rfl) rfl rfl ?_
    refine XR_a (op_ld (st.cell 4 (i := 0) rfl rfl) rfl rfl rfl) rfl rfl ?_
    refine XR_a (op_lss rfl rfl) rfl rfl ?_
    refine XR_a (op_pick_t rfl rfl) rfl rfl ?_
    refine XR_a (op_assign rfl) rfl rfl ?_
    refine XR_nil ?_
    refine X_seq ?_
    refine X_seq ?_
    refine X_reg ?_
    refine XR_a (op_move rfl) rfl rfl ?_
    refine XR_a (op_move rfl) rfl rfl ?_
    refine XR_a (op_move rfl) rfl rfl ?_
    refine XR_if 41 rfl (fun h => ?_) (fun h => ?_)
    · have hlt := h
      have e1 := yes1 hr hlt
      have e2 := yes2 hr hlt
      refine XR_a (op_ldA (st.cells 1 rfl) rfl rfl rfl rfl) rfl rfl ?_
      refine XR_wa (opl_call (sright_ref _ _ _ _ _) rfl (by kernel_rfl)) rfl rfl rfl ?_
      rintro _ hp ⟨rfl, hx⟩
      replace st := st.ext hx
      refine XR_a (op_pick_t rfl rfl) rfl rfl ?_
      refine XR_a (op_neqB rfl rfl rfl) rfl rfl ?_
      refine XR_as (.bool false) (congrArg Value.bool (decide_eq_false (by rw [e1]; split <;> simp_all))) ?_
      refine XR_a (op_move rfl) rfl rfl ?_
      refine XR_a (op_move rfl) rfl rfl ?_
      refine XR_a (op_move rfl) rfl rfl ?_
      refine XR_a (op_move rfl) rfl rfl ?_
      refine XR_if 49 rfl (fun h => ?_) (fun h => ?_)
      · refine XR_a (op_ldA (st.cells 0 rfl) rfl rfl rfl rfl) rfl rfl ?_
        refine XR_wa (opl_call (sright_ref _ _ _ _ _) rfl (by kernel_rfl)) rfl rfl rfl ?_
        rintro _ hp ⟨rfl, hx⟩
        replace st := st.ext hx
        refine XR_a (op_pick_t rfl rfl) rfl rfl ?_
        refine XR_a (op_neqB rfl rfl rfl) rfl rfl ?_
        refine XR_as (.bool false) (congrArg Value.bool (decide_eq_false (by rw [e2]; split <;> simp_all))) ?_
        refine XR_a (op_pick_f rfl rfl) rfl rfl ?_
        refine XR_nil ?_
        refine X_else rfl ?_
        refine X_skip ?_
        refine X_seq ?_
        refine X_seq ?_
        refine X_reg ?_
        refine XR_a (op_move rfl) rfl rfl ?_
        refine XR_nil ?_
        refine X_if rfl (fun h => ?_) (fun h => ?_)
        · refine X_seq ?_
          refine X_reg ?_
          first | refine XR_a (op_field0 rfl rfl) rfl rfl ?_ | refine XR_a (op_fieldn rfl rfl) rfl rfl ?_
          have hr2 := hr
          simp only [Slt.right] at hr2
          refine XR_a (op_ld (st.cell 4 (i := 0) rfl rfl) rfl rfl rfl) rfl rfl ?_
          refine XR_a (op_addI rfl rfl (by simp only [inK]; omega)) rfl rfl ?_
          first | refine XR_a (op_field0 rfl rfl) rfl rfl ?_ | refine XR_a (op_fieldn rfl rfl) rfl rfl ?_
          refine XR_wn (opl_store_pt st 1 rfl rfl rfl rfl rfl (rfl)) rfl rfl fun _ hp st => ?_
          simp only [List.set_cons_zero, List.set_cons_succ] at st
          refine XR_nil ?_
          refine X_reg ?_
          first | refine XR_a (op_field0 rfl rfl) rfl rfl ?_ | refine XR_a (op_fieldn rfl rfl) rfl rfl ?_
          refine XR_a (op_ld (st.cell 4 (i := 0) rfl rfl) rfl rfl rfl) rfl rfl ?_
          refine XR_a (op_addI rfl rfl (by simp only [inK]; omega)) rfl rfl ?_
          first | refine XR_a (op_field0 rfl rfl) rfl rfl ?_ | refine XR_a (op_fieldn rfl rfl) rfl rfl ?_
          refine XR_wn (opl_store_pt st 0 rfl rfl rfl rfl rfl (rfl)) rfl rfl fun _ hp st => ?_
          simp only [List.set_cons_zero, List.set_cons_succ] at st
          refine XR_nil ?_
          refine X_seq ?_
          refine X_reg ?_
          refine XR_a (op_move rfl) rfl rfl ?_
          refine XR_as (.bool (decide (T1.2 = true))) (by simp) ?_
          refine XR_a (op_move rfl) rfl rfl ?_
          refine XR_if 65 rfl (fun h => ?_) (fun h => ?_)
          · have t1 : T1 = (⟨a + 1, b, 0, false⟩, true) := by rw [e1] at h ⊢; split <;> simp_all
            rw [t1] at st
            refine XR_a (op_ldA (st.cells 3 rfl) rfl rfl rfl rfl) rfl rfl ?_
            refine XR_a (op_ldA (st.cells 1 rfl) rfl rfl rfl rfl) rfl rfl ?_
            refine XR_a (op_eqlH rfl rfl (eq_slot _ _ _ _ _ _ _ _) (by kernel_rfl)) rfl rfl ?_
            refine XR_as (.bool true) (by simp) ?_
            refine XR_a (op_pick_t rfl rfl) rfl rfl ?_
            refine XR_a (op_move rfl) rfl rfl ?_
            refine XR_no rfl rfl ?_
            refine XR_no rfl rfl ?_
            refine XR_no rfl rfl ?_
            refine XR_no rfl rfl ?_
            refine XR_no rfl rfl ?_
            refine XR_no rfl rfl ?_
            refine XR_no rfl rfl ?_
            refine XR_a (op_pick_t rfl rfl) rfl rfl ?_
            refine XR_a (op_move rfl) rfl rfl ?_
            refine XR_a (op_move rfl) rfl rfl ?_
            refine XR_as (.bool (decide (T2.2 = true))) (by simp) ?_
            refine XR_a (op_move rfl) rfl rfl ?_
            refine XR_if 81 rfl (fun h => ?_) (fun h => ?_)
            · have t2 : T2 = (⟨a + 1, e, k, true⟩, true) := by rw [e2] at h ⊢; split <;> simp_all
              rw [t2] at st
              refine XR_a (op_ldA (st.cells 2 rfl) rfl rfl rfl rfl) rfl rfl ?_
              refine XR_a (op_ldA (st.cells 0 rfl) rfl rfl rfl rfl) rfl rfl ?_
              refine XR_a (op_eqlH rfl rfl (eq_slot _ _ _ _ _ _ _ _) (by kernel_rfl)) rfl rfl ?_
              refine XR_as (.bool true) (by simp) ?_
              refine XR_a (op_pick_t rfl rfl) rfl rfl ?_
              refine XR_a (op_move rfl) rfl rfl ?_
              refine XR_no rfl rfl ?_
              refine XR_no rfl rfl ?_
              refine XR_no rfl rfl ?_
              refine XR_no rfl rfl ?_
              refine XR_no rfl rfl ?_
              refine XR_no rfl rfl ?_
              refine XR_no rfl rfl ?_
              refine XR_a (op_pick_t rfl rfl) rfl rfl ?_
              refine XR_a (op_pick_t rfl rfl) rfl rfl ?_
              refine XR_a (op_move rfl) rfl rfl ?_
              refine XR_wa (opl_call (lives21 _) rfl (by kernel_rfl)) rfl rfl rfl ?_
              rintro _ hp ⟨rfl, hx⟩
              refine XR_a (op_pick_t rfl rfl) rfl rfl ?_
              refine XR_a (op_assign rfl) rfl rfl ?_
              refine XR_nil ?_
              refine X_ret (.cons (.tmp rfl) .nil) ?_
              exact ⟨rfl, st.low.trans (hx.mono st.low.size)⟩
            · have t2 : T2 = (Slt.nil, false) := by rw [e2] at h ⊢; split <;> simp_all
              rw [t2] at st
              refine XR_no rfl rfl ?_
              refine XR_no rfl rfl ?_
              refine XR_no rfl rfl ?_
              refine XR_a (op_pick_f rfl rfl) rfl rfl ?_
              refine XR_a (op_move rfl) rfl rfl ?_
              refine XR_a (op_move rfl) rfl rfl ?_
              refine XR_a (op_not rfl) rfl rfl ?_
              refine XR_as (.bool true) (by simp only [t2]; rfl) ?_
              refine XR_a (op_move rfl) rfl rfl ?_
              refine XR_a (op_ldA (st.cells 2 rfl) rfl rfl rfl rfl) rfl rfl ?_
              refine XR_a (op_build (ps := []) (cs := (sltC Slt.nil).toArray) rfl rfl) rfl rfl ?_
              refine XR_a (op_eqlH rfl rfl (eq_slot 0 0 0 0 0 0 false false) (by kernel_rfl)) rfl rfl ?_
              refine XR_as (.bool true) (by simp) ?_
              refine XR_a (op_pick_t rfl rfl) rfl rfl ?_
              refine XR_a (op_pick_f rfl rfl) rfl rfl ?_
              refine XR_a (op_pick_t rfl rfl) rfl rfl ?_
              refine XR_a (op_move rfl) rfl rfl ?_
              refine XR_wa (opl_call (lives21 _) rfl (by kernel_rfl)) rfl rfl rfl ?_
              rintro _ hp ⟨rfl, hx⟩
              refine XR_a (op_pick_t rfl rfl) rfl rfl ?_
              refine XR_a (op_assign rfl) rfl rfl ?_
              refine XR_nil ?_
              refine X_ret (.cons (.tmp rfl) .nil) ?_
              exact ⟨rfl, st.low.trans (hx.mono st.low.size)⟩
          · have t1 : T1 = (Slt.nil, false) := by rw [e1] at h ⊢; split <;> simp_all
            rw [t1] at st
            refine XR_no rfl rfl ?_
            refine XR_no rfl rfl ?_
            refine XR_no rfl rfl ?_
            refine XR_a (op_pick_f rfl rfl) rfl rfl ?_
            refine XR_a (op_move rfl) rfl rfl ?_
            refine XR_a (op_move rfl) rfl rfl ?_
            refine XR_a (op_not rfl) rfl rfl ?_
            refine XR_as (.bool true) (by simp only [t1]; rfl) ?_
            refine XR_a (op_move rfl) rfl rfl ?_
            refine XR_a (op_ldA (st.cells 3 rfl) rfl rfl rfl rfl) rfl rfl ?_
            refine XR_a (op_build (ps := []) (cs := (sltC Slt.nil).toArray) rfl rfl) rfl rfl ?_
            refine XR_a (op_eqlH rfl rfl (eq_slot 0 0 0 0 0 0 false false) (by kernel_rfl)) rfl rfl ?_
            refine XR_as (.bool true) (by simp) ?_
            refine XR_a (op_pick_t rfl rfl) rfl rfl ?_
            refine XR_a (op_pick_f rfl rfl) rfl rfl ?_
            refine XR_a (op_move rfl) rfl rfl ?_
            refine XR_a (op_move rfl) rfl rfl ?_
            refine XR_as (.bool (decide (T2.2 = true))) (by simp) ?_
            refine XR_a (op_move rfl) rfl rfl ?_
            refine XR_if 81 rfl (fun h => ?_) (fun h => ?_)
            · have t2 : T2 = (⟨a + 1, e, k, true⟩, true) := by rw [e2] at h ⊢; split <;> simp_all
              rw [t2] at st
              refine XR_a (op_ldA (st.cells 2 rfl) rfl rfl rfl rfl) rfl rfl ?_
              refine XR_a (op_ldA (st.cells 0 rfl) rfl rfl rfl rfl) rfl rfl ?_
              refine XR_a (op_eqlH rfl rfl (eq_slot _ _ _ _ _ _ _ _) (by kernel_rfl)) rfl rfl ?_
              refine XR_as (.bool true) (by simp) ?_
              refine XR_a (op_pick_t rfl rfl) rfl rfl ?_
              refine XR_a (op_move rfl) rfl rfl ?_
              refine XR_no rfl rfl ?_
              refine XR_no rfl rfl ?_
              refine XR_no rfl rfl ?_
              refine XR_no rfl rfl ?_
              refine XR_no rfl rfl ?_
              refine XR_no rfl rfl ?_
              refine XR_no rfl rfl ?_
              refine XR_a (op_pick_t rfl rfl) rfl rfl ?_
              refine XR_a (op_pick_t rfl rfl) rfl rfl ?_
              refine XR_a (op_move rfl) rfl rfl ?_
              refine XR_wa (opl_call (lives21 _) rfl (by kernel_rfl)) rfl rfl rfl ?_
              rintro _ hp ⟨rfl, hx⟩
              refine XR_a (op_pick_t rfl rfl) rfl rfl ?_
              refine XR_a (op_assign rfl) rfl rfl ?_
              refine XR_nil ?_
              refine X_ret (.cons (.tmp rfl) .nil) ?_
              exact ⟨rfl, st.low.trans (hx.mono st.low.size)⟩
            · have t2 : T2 = (Slt.nil, false) := by rw [e2] at h ⊢; split <;> simp_all
              rw [t2] at st
              refine XR_no rfl rfl ?_
              refine XR_no rfl rfl ?_
              refine XR_no rfl rfl ?_
              refine XR_a (op_pick_f rfl rfl) rfl rfl ?_
              refine XR_a (op_move rfl) rfl rfl ?_
              refine XR_a (op_move rfl) rfl rfl ?_
              refine XR_a (op_not rfl) rfl rfl ?_
              refine XR_as (.bool true) (by simp only [t2]; rfl) ?_
              refine XR_a (op_move rfl) rfl rfl ?_
              refine XR_a (op_ldA (st.cells 2 rfl) rfl rfl rfl rfl) rfl rfl ?_
              refine XR_a (op_build (ps := []) (cs := (sltC Slt.nil).toArray) rfl rfl) rfl rfl ?_
              refine XR_a (op_eqlH rfl rfl (eq_slot 0 0 0 0 0 0 false false) (by kernel_rfl)) rfl rfl ?_
              refine XR_as (.bool true) (by simp) ?_
              refine XR_a (op_pick_t rfl rfl) rfl rfl ?_
              refine XR_a (op_pick_f rfl rfl) rfl rfl ?_
              refine XR_a (op_pick_t rfl rfl) rfl rfl ?_
              refine XR_a (op_move rfl) rfl rfl ?_
              refine XR_wa (opl_call (lives21 _) rfl (by kernel_rfl)) rfl rfl rfl ?_
              rintro _ hp ⟨rfl, hx⟩
              refine XR_a (op_pick_t rfl rfl) rfl rfl ?_
              refine XR_a (op_assign rfl) rfl rfl ?_
              refine XR_nil ?_
              refine X_ret (.cons (.tmp rfl) .nil) ?_
              exact ⟨rfl, st.low.trans (hx.mono st.low.size)⟩
        · exact absurd hlt h
      · refine XR_no rfl rfl ?_
        refine XR_no rfl rfl ?_
        refine XR_a (op_pick_f rfl rfl) rfl rfl ?_
        refine XR_a (op_neqB rfl rfl rfl) rfl rfl ?_
        refine XR_as (.bool false) (congrArg Value.bool (decide_eq_false (by rw [e2]; split <;> simp_all))) ?_
        refine XR_a (op_pick_f rfl rfl) rfl rfl ?_
        refine XR_nil ?_
        refine X_else rfl ?_
        refine X_skip ?_
        refine X_seq ?_
        refine X_seq ?_
        refine X_reg ?_
        refine XR_a (op_move rfl) rfl rfl ?_
        refine XR_nil ?_
        refine X_if rfl (fun h => ?_) (fun h => ?_)
        · refine X_seq ?_
          refine X_reg ?_
          first | refine XR_a (op_field0 rfl rfl) rfl rfl ?_ | refine XR_a (op_fieldn rfl rfl) rfl rfl ?_
          have hr2 := hr
          simp only [Slt.right] at hr2
          refine XR_a (op_ld (st.cell 4 (i := 0) rfl rfl) rfl rfl rfl) rfl rfl ?_
          refine XR_a (op_addI rfl rfl (by simp only [inK]; omega)) rfl rfl ?_
          first | refine XR_a (op_field0 rfl rfl) rfl rfl ?_ | refine XR_a (op_fieldn rfl rfl) rfl rfl ?_
          refine XR_wn (opl_store_pt st 1 rfl rfl rfl rfl rfl (rfl)) rfl rfl fun _ hp st => ?_
          simp only [List.set_cons_zero, List.set_cons_succ] at st
          refine XR_nil ?_
          refine X_reg ?_
          first | refine XR_a (op_field0 rfl rfl) rfl rfl ?_ | refine XR_a (op_fieldn rfl rfl) rfl rfl ?_
          refine XR_a (op_ld (st.cell 4 (i := 0) rfl rfl) rfl rfl rfl) rfl rfl ?_
          refine XR_a (op_addI rfl rfl (by simp only [inK]; omega)) rfl rfl ?_
          first | refine XR_a (op_field0 rfl rfl) rfl rfl ?_ | refine XR_a (op_fieldn rfl rfl) rfl rfl ?_
          refine XR_wn (opl_store_pt st 0 rfl rfl rfl rfl rfl (rfl)) rfl rfl fun _ hp st => ?_
          simp only [List.set_cons_zero, List.set_cons_succ] at st
          refine XR_nil ?_
          refine X_seq ?_
          refine X_reg ?_
          refine XR_a (op_move rfl) rfl rfl ?_
          refine XR_as (.bool (decide (T1.2 = true))) (by simp) ?_
          refine XR_a (op_move rfl) rfl rfl ?_
          refine XR_if 65 rfl (fun h => ?_) (fun h => ?_)
          · have t1 : T1 = (⟨a + 1, b, 0, false⟩, true) := by rw [e1] at h ⊢; split <;> simp_all
            rw [t1] at st
            refine XR_a (op_ldA (st.cells 3 rfl) rfl rfl rfl rfl) rfl rfl ?_
            refine XR_a (op_ldA (st.cells 1 rfl) rfl rfl rfl rfl) rfl rfl ?_
            refine XR_a (op_eqlH rfl rfl (eq_slot _ _ _ _ _ _ _ _) (by kernel_rfl)) rfl rfl ?_
            refine XR_as (.bool true) (by simp) ?_
            refine XR_a (op_pick_t rfl rfl) rfl rfl ?_
            refine XR_a (op_move rfl) rfl rfl ?_
            refine XR_no rfl rfl ?_
            refine XR_no rfl rfl ?_
            refine XR_no rfl rfl ?_
            refine XR_no rfl rfl ?_
            refine XR_no rfl rfl ?_
            refine XR_no rfl rfl ?_
            refine XR_no rfl rfl ?_
            refine XR_a (op_pick_t rfl rfl) rfl rfl ?_
            refine XR_a (op_move rfl) rfl rfl ?_
            refine XR_a (op_move rfl) rfl rfl ?_
            refine XR_as (.bool (decide (T2.2 = true))) (by simp) ?_
            refine XR_a (op_move rfl) rfl rfl ?_
            refine XR_if 81 rfl (fun h => ?_) (fun h => ?_)
            · have t2 : T2 = (⟨a + 1, e, k, true⟩, true) := by rw [e2] at h ⊢; split <;> simp_all
              rw [t2] at st
              refine XR_a (op_ldA (st.cells 2 rfl) rfl rfl rfl rfl) rfl rfl ?_
              refine XR_a (op_ldA (st.cells 0 rfl) rfl rfl rfl rfl) rfl rfl ?_
              refine XR_a (op_eqlH rfl rfl (eq_slot _ _ _ _ _ _ _ _) (by kernel_rfl)) rfl rfl ?_
              refine XR_as (.bool true) (by simp) ?_
              refine XR_a (op_pick_t rfl rfl) rfl rfl ?_
              refine XR_a (op_move rfl) rfl rfl ?_
              refine XR_no rfl rfl ?_
              refine XR_no rfl rfl ?_
              refine XR_no rfl rfl ?_
              refine XR_no rfl rfl ?_
              refine XR_no rfl rfl ?_
              refine XR_no rfl rfl ?_
              refine XR_no rfl rfl ?_
              refine XR_a (op_pick_t rfl rfl) rfl rfl ?_
              refine XR_a (op_pick_t rfl rfl) rfl rfl ?_
              refine XR_a (op_move rfl) rfl rfl ?_
              refine XR_wa (opl_call (lives21 _) rfl (by kernel_rfl)) rfl rfl rfl ?_
              rintro _ hp ⟨rfl, hx⟩
              refine XR_a (op_pick_t rfl rfl) rfl rfl ?_
              refine XR_a (op_assign rfl) rfl rfl ?_
              refine XR_nil ?_
              refine X_ret (.cons (.tmp rfl) .nil) ?_
              exact ⟨rfl, st.low.trans (hx.mono st.low.size)⟩
            · have t2 : T2 = (Slt.nil, false) := by rw [e2] at h ⊢; split <;> simp_all
              rw [t2] at st
              refine XR_no rfl rfl ?_
              refine XR_no rfl rfl ?_
              refine XR_no rfl rfl ?_
              refine XR_a (op_pick_f rfl rfl) rfl rfl ?_
              refine XR_a (op_move rfl) rfl rfl ?_
              refine XR_a (op_move rfl) rfl rfl ?_
              refine XR_a (op_not rfl) rfl rfl ?_
              refine XR_as (.bool true) (by simp only [t2]; rfl) ?_
              refine XR_a (op_move rfl) rfl rfl ?_
              refine XR_a (op_ldA (st.cells 2 rfl) rfl rfl rfl rfl) rfl rfl ?_
              refine XR_a (op_build (ps := []) (cs := (sltC Slt.nil).toArray) rfl rfl) rfl rfl ?_
              refine XR_a (op_eqlH rfl rfl (eq_slot 0 0 0 0 0 0 false false) (by kernel_rfl)) rfl rfl ?_
              refine XR_as (.bool true) (by simp) ?_
              refine XR_a (op_pick_t rfl rfl) rfl rfl ?_
              refine XR_a (op_pick_f rfl rfl) rfl rfl ?_
              refine XR_a (op_pick_t rfl rfl) rfl rfl ?_
              refine XR_a (op_move rfl) rfl rfl ?_
              refine XR_wa (opl_call (lives21 _) rfl (by kernel_rfl)) rfl rfl rfl ?_
              rintro _ hp ⟨rfl, hx⟩
              refine XR_a (op_pick_t rfl rfl) rfl rfl ?_
              refine XR_a (op_assign rfl) rfl rfl ?_
              refine XR_nil ?_
              refine X_ret (.cons (.tmp rfl) .nil) ?_
              exact ⟨rfl, st.low.trans (hx.mono st.low.size)⟩
          · have t1 : T1 = (Slt.nil, false) := by rw [e1] at h ⊢; split <;> simp_all
            rw [t1] at st
            refine XR_no rfl rfl ?_
            refine XR_no rfl rfl ?_
            refine XR_no rfl rfl ?_
            refine XR_a (op_pick_f rfl rfl) rfl rfl ?_
            refine XR_a (op_move rfl) rfl rfl ?_
            refine XR_a (op_move rfl) rfl rfl ?_
            refine XR_a (op_not rfl) rfl rfl ?_
            refine XR_as (.bool true) (by simp only [t1]; rfl) ?_
            refine XR_a (op_move rfl) rfl rfl ?_
            refine XR_a (op_ldA (st.cells 3 rfl) rfl rfl rfl rfl) rfl rfl ?_
            refine XR_a (op_build (ps := []) (cs := (sltC Slt.nil).toArray) rfl rfl) rfl rfl ?_
            refine XR_a (op_eqlH rfl rfl (eq_slot 0 0 0 0 0 0 false false) (by kernel_rfl)) rfl rfl ?_
            refine XR_as (.bool true) (by simp) ?_
            refine XR_a (op_pick_t rfl rfl) rfl rfl ?_
            refine XR_a (op_pick_f rfl rfl) rfl rfl ?_
            refine XR_a (op_move rfl) rfl rfl ?_
            refine XR_a (op_move rfl) rfl rfl ?_
            refine XR_as (.bool (decide (T2.2 = true))) (by simp) ?_
            refine XR_a (op_move rfl) rfl rfl ?_
            refine XR_if 81 rfl (fun h => ?_) (fun h => ?_)
            · have t2 : T2 = (⟨a + 1, e, k, true⟩, true) := by rw [e2] at h ⊢; split <;> simp_all
              rw [t2] at st
              refine XR_a (op_ldA (st.cells 2 rfl) rfl rfl rfl rfl) rfl rfl ?_
              refine XR_a (op_ldA (st.cells 0 rfl) rfl rfl rfl rfl) rfl rfl ?_
              refine XR_a (op_eqlH rfl rfl (eq_slot _ _ _ _ _ _ _ _) (by kernel_rfl)) rfl rfl ?_
              refine XR_as (.bool true) (by simp) ?_
              refine XR_a (op_pick_t rfl rfl) rfl rfl ?_
              refine XR_a (op_move rfl) rfl rfl ?_
              refine XR_no rfl rfl ?_
              refine XR_no rfl rfl ?_
              refine XR_no rfl rfl ?_
              refine XR_no rfl rfl ?_
              refine XR_no rfl rfl ?_
              refine XR_no rfl rfl ?_
              refine XR_no rfl rfl ?_
              refine XR_a (op_pick_t rfl rfl) rfl rfl ?_
              refine XR_a (op_pick_t rfl rfl) rfl rfl ?_
              refine XR_a (op_move rfl) rfl rfl ?_
              refine XR_wa (opl_call (lives21 _) rfl (by kernel_rfl)) rfl rfl rfl ?_
              rintro _ hp ⟨rfl, hx⟩
              refine XR_a (op_pick_t rfl rfl) rfl rfl ?_
              refine XR_a (op_assign rfl) rfl rfl ?_
              refine XR_nil ?_
              refine X_ret (.cons (.tmp rfl) .nil) ?_
              exact ⟨rfl, st.low.trans (hx.mono st.low.size)⟩
            · have t2 : T2 = (Slt.nil, false) := by rw [e2] at h ⊢; split <;> simp_all
              rw [t2] at st
              refine XR_no rfl rfl ?_
              refine XR_no rfl rfl ?_
              refine XR_no rfl rfl ?_
              refine XR_a (op_pick_f rfl rfl) rfl rfl ?_
              refine XR_a (op_move rfl) rfl rfl ?_
              refine XR_a (op_move rfl) rfl rfl ?_
              refine XR_a (op_not rfl) rfl rfl ?_
              refine XR_as (.bool true) (by simp only [t2]; rfl) ?_
              refine XR_a (op_move rfl) rfl rfl ?_
              refine XR_a (op_ldA (st.cells 2 rfl) rfl rfl rfl rfl) rfl rfl ?_
              refine XR_a (op_build (ps := []) (cs := (sltC Slt.nil).toArray) rfl rfl) rfl rfl ?_
              refine XR_a (op_eqlH rfl rfl (eq_slot 0 0 0 0 0 0 false false) (by kernel_rfl)) rfl rfl ?_
              refine XR_as (.bool true) (by simp) ?_
              refine XR_a (op_pick_t rfl rfl) rfl rfl ?_
              refine XR_a (op_pick_f rfl rfl) rfl rfl ?_
              refine XR_a (op_pick_t rfl rfl) rfl rfl ?_
              refine XR_a (op_move rfl) rfl rfl ?_
              refine XR_wa (opl_call (lives21 _) rfl (by kernel_rfl)) rfl rfl rfl ?_
              rintro _ hp ⟨rfl, hx⟩
              refine XR_a (op_pick_t rfl rfl) rfl rfl ?_
              refine XR_a (op_assign rfl) rfl rfl ?_
              refine XR_nil ?_
              refine X_ret (.cons (.tmp rfl) .nil) ?_
              exact ⟨rfl, st.low.trans (hx.mono st.low.size)⟩
        · exact absurd hlt h
    · have hnlt := h
      have e1 := no1 (fun hh => h hh.2)
      have e2 := no2 (fun hh => h hh.2)
      rw [e1, e2] at st ⊢
      refine XR_no rfl rfl ?_
      refine XR_no rfl rfl ?_
      refine XR_a (op_pick_f rfl rfl) rfl rfl ?_
      refine XR_a (op_neqB rfl rfl rfl) rfl rfl ?_
      refine XR_as (.bool false) rfl ?_
      refine XR_a (op_move rfl) rfl rfl ?_
      refine XR_a (op_move rfl) rfl rfl ?_
      refine XR_a (op_move rfl) rfl rfl ?_
      refine XR_a (op_move rfl) rfl rfl ?_
      refine XR_as (.bool false) (congrArg Value.bool (decide_eq_false hnlt)) ?_
      refine XR_no rfl rfl ?_
      refine XR_no rfl rfl ?_
      refine XR_a (op_pick_f rfl rfl) rfl rfl ?_
      refine XR_a (op_neqB rfl rfl rfl) rfl rfl ?_
      refine XR_as (.bool false) rfl ?_
      refine XR_a (op_pick_f rfl rfl) rfl rfl ?_
      refine XR_nil ?_
      refine X_else rfl ?_
      refine X_skip ?_
      refine X_seq ?_
      refine X_seq ?_
      refine X_reg ?_
      refine XR_a (op_move rfl) rfl rfl ?_
      refine XR_nil ?_
      refine X_if rfl (fun h => ?_) (fun h => ?_)
      · exact absurd h (by assumption)
      · refine X_skip ?_
        refine X_seq ?_
        refine X_reg ?_
        refine XR_a (op_move rfl) rfl rfl ?_
        refine XR_a (op_move rfl) rfl rfl ?_
        refine XR_no rfl rfl ?_
        refine XR_no rfl rfl ?_
        refine XR_no rfl rfl ?_
        refine XR_a (op_pick_f rfl rfl) rfl rfl ?_
        refine XR_a (op_move rfl) rfl rfl ?_
        refine XR_a (op_move rfl) rfl rfl ?_
        first | refine XR_a (op_not rfl) rfl rfl ?_ | refine XR_a (op_notd rfl) rfl rfl ?_
        refine XR_a (op_move rfl) rfl rfl ?_
        refine XR_a (op_ldA (st.cells 3 rfl) rfl rfl rfl rfl) rfl rfl ?_
        refine XR_a (op_build (ps := []) (cs := (sltC Slt.nil).toArray) rfl rfl) rfl rfl ?_
        refine XR_a (op_eqlH rfl rfl (eq_slot 0 0 0 0 0 0 false false) (by kernel_rfl)) rfl rfl ?_
        refine XR_as (.bool true) (by simp) ?_
        refine XR_a (op_pick_t rfl rfl) rfl rfl ?_
        refine XR_a (op_pick_f rfl rfl) rfl rfl ?_
        refine XR_a (op_move rfl) rfl rfl ?_
        refine XR_a (op_move rfl) rfl rfl ?_
        refine XR_a (op_move rfl) rfl rfl ?_
        refine XR_no rfl rfl ?_
        refine XR_no rfl rfl ?_
        refine XR_no rfl rfl ?_
        refine XR_a (op_pick_f rfl rfl) rfl rfl ?_
        refine XR_a (op_move rfl) rfl rfl ?_
        refine XR_a (op_move rfl) rfl rfl ?_
        first | refine XR_a (op_not rfl) rfl rfl ?_ | refine XR_a (op_notd rfl) rfl rfl ?_
        refine XR_a (op_move rfl) rfl rfl ?_
        refine XR_a (op_ldA (st.cells 2 rfl) rfl rfl rfl rfl) rfl rfl ?_
        refine XR_a (op_build (ps := []) (cs := (sltC Slt.nil).toArray) rfl rfl) rfl rfl ?_
        refine XR_a (op_eqlH rfl rfl (eq_slot 0 0 0 0 0 0 false false) (by kernel_rfl)) rfl rfl ?_
        refine XR_as (.bool true) (by simp) ?_
        refine XR_a (op_pick_t rfl rfl) rfl rfl ?_
        refine XR_a (op_pick_f rfl rfl) rfl rfl ?_
        refine XR_a (op_pick_t rfl rfl) rfl rfl ?_
        refine XR_a (op_move rfl) rfl rfl ?_
        refine XR_wa (opl_call (lives21 _) rfl (by kernel_rfl)) rfl rfl rfl ?_
        rintro _ hp ⟨rfl, hx⟩
        refine XR_a (op_pick_t rfl rfl) rfl rfl ?_
        refine XR_a (op_assign rfl) rfl rfl ?_
        refine XR_nil ?_
        refine X_ret (.cons (.tmp rfl) .nil) ?_
        exact ⟨rfl, st.low.trans (hx.mono st.low.size)⟩
  · have e1 := no1 (fun hh => h hh.1)
    have e2 := no2 (fun hh => h hh.1)
    rw [e1, e2] at st ⊢
    refine XR_no rfl rfl ?_
    refine XR_no rfl rfl ?_
    refine XR_no rfl rfl ?_
    refine XR_a (op_pick_f rfl rfl) rfl rfl ?_
    refine XR_a (op_assign rfl) rfl rfl ?_
    refine XR_nil ?_
    refine X_seq ?_
    refine X_seq ?_
    refine X_reg ?_
    refine XR_a (op_move rfl) rfl rfl ?_
    refine XR_a (op_move rfl) rfl rfl ?_
    refine XR_a (op_move rfl) rfl rfl ?_
    refine XR_no rfl rfl ?_
    refine XR_no rfl rfl ?_
    refine XR_a (op_pick_f rfl rfl) rfl rfl ?_
    refine XR_a (op_neqB rfl rfl rfl) rfl rfl ?_
    refine XR_as (.bool false) rfl ?_
    refine XR_a (op_move rfl) rfl rfl ?_
    refine XR_a (op_move rfl) rfl rfl ?_
    refine XR_a (op_move rfl) rfl rfl ?_
    refine XR_a (op_move rfl) rfl rfl ?_
    refine XR_no rfl rfl ?_
    refine XR_no rfl rfl ?_
    refine XR_a (op_pick_f rfl rfl) rfl rfl ?_
    refine XR_a (op_neqB rfl rfl rfl) rfl rfl ?_
    refine XR_as (.bool false) rfl ?_
    refine XR_a (op_pick_f rfl rfl) rfl rfl ?_
    refine XR_nil ?_
    refine X_else rfl ?_
    refine X_skip ?_
    refine X_seq ?_
    refine X_seq ?_
    refine X_reg ?_
    refine XR_a (op_move rfl) rfl rfl ?_
    refine XR_nil ?_
    refine X_else rfl ?_
    refine X_skip ?_
    refine X_seq ?_
    refine X_reg ?_
    refine XR_a (op_move rfl) rfl rfl ?_
    refine XR_a (op_move rfl) rfl rfl ?_
    refine XR_no rfl rfl ?_
    refine XR_no rfl rfl ?_
    refine XR_no rfl rfl ?_
    refine XR_a (op_pick_f rfl rfl) rfl rfl ?_
    refine XR_a (op_move rfl) rfl rfl ?_
    refine XR_a (op_move rfl) rfl rfl ?_
    first | refine XR_a (op_not rfl) rfl rfl ?_ | refine XR_a (op_notd rfl) rfl rfl ?_
    refine XR_a (op_move rfl) rfl rfl ?_
    refine XR_a (op_ldA (st.cells 3 rfl) rfl rfl rfl rfl) rfl rfl ?_
    refine XR_a (op_build (ps := []) (cs := (sltC Slt.nil).toArray) rfl rfl) rfl rfl ?_
    refine XR_a (op_eqlH rfl rfl (eq_slot 0 0 0 0 0 0 false false) (by kernel_rfl)) rfl rfl ?_
    refine XR_as (.bool true) (by simp) ?_
    refine XR_a (op_pick_t rfl rfl) rfl rfl ?_
    refine XR_a (op_pick_f rfl rfl) rfl rfl ?_
    refine XR_a (op_move rfl) rfl rfl ?_
    refine XR_a (op_move rfl) rfl rfl ?_
    refine XR_a (op_move rfl) rfl rfl ?_
    refine XR_no rfl rfl ?_
    refine XR_no rfl rfl ?_
    refine XR_no rfl rfl ?_
    refine XR_a (op_pick_f rfl rfl) rfl rfl ?_
    refine XR_a (op_move rfl) rfl rfl ?_
    refine XR_a (op_move rfl) rfl rfl ?_
    first | refine XR_a (op_not rfl) rfl rfl ?_ | refine XR_a (op_notd rfl) rfl rfl ?_
    refine XR_a (op_move rfl) rfl rfl ?_
    refine XR_a (op_ldA (st.cells 2 rfl) rfl rfl rfl rfl) rfl rfl ?_
    refine XR_a (op_build (ps := []) (cs := (sltC Slt.nil).toArray) rfl rfl) rfl rfl ?_
    refine XR_a (op_eqlH rfl rfl (eq_slot 0 0 0 0 0 0 false false) (by kernel_rfl)) rfl rfl ?_
    refine XR_as (.bool true) (by simp) ?_
    refine XR_a (op_pick_t rfl rfl) rfl rfl ?_
    refine XR_a (op_pick_f rfl rfl) rfl rfl ?_
    refine XR_a (op_pick_t rfl rfl) rfl rfl ?_
    refine XR_a (op_move rfl) rfl rfl ?_
    refine XR_wa (opl_call (lives21 _) rfl (by kernel_rfl)) rfl rfl rfl ?_
    rintro _ hp ⟨rfl, hx⟩
    refine XR_a (op_pick_t rfl rfl) rfl rfl ?_
    refine XR_a (op_assign rfl) rfl rfl ?_
    refine XR_nil ?_
    refine X_ret (.cons (.tmp rfl) .nil) ?_
    exact ⟨rfl, st.low.trans (hx.mono st.low.size)⟩
end Go.Bn
