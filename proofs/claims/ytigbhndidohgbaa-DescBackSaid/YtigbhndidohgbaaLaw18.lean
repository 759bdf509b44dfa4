/- The laws DescPuts, DescTakes and DescFits come to true. -/
import Derived.Test.YtigbhndidohgbaaDesc
set_option linter.unusedVariables false
set_option linter.unusedSimpArgs false
set_option maxHeartbeats 4000000
set_option maxRecDepth 20000
namespace Go.Bn
open Go Proofs

theorem eq_descD (a b c a' b' c' : Int) (w : World) : (binOp .eql 61 (.agg #[.int .i64 a, .int .i64 b, .int .u32 c]) (.agg #[.int .i64 a', .int .i64 b', .int .u32 c'])).run Try.prog w = .ok (.bool (decide (Dsc.mk a b c = Dsc.mk a' b' c'))) w := by
  have hS : Try.prog.underlying 61 = some (.struct (Try.prog.fieldsOf 61)) := by kernel_rfl
  have hp : Try.prog.stoodInHeld 61 = false := by kernel_rfl
  have u3 := Try.underlying3
  have ub := Try.underlying22
  have a3 : ∀ w, (isAgg 3).run Try.prog w = .ok false w := run_isAgg_single rfl
  have ab : ∀ w, (isAgg 22).run Try.prog w = .ok false w := run_isAgg_single rfl
  have e3 : ∀ (x y : Int) (w : World), (Op.equalIn 9999 3 (.int .i64 x) (.int .i64 y)).run Try.prog w = .ok (x == y) w := fun x y w => run_equalIn_int w 9998 _ _ _ _ _ u3
  have eb : ∀ (x y : Int) (w : World), (Op.equalIn 9999 22 (.int .u32 x) (.int .u32 y)).run Try.prog w = .ok (x == y) w := fun x y w => run_equalIn_int w 9998 _ _ _ _ _ ub
  rw [run_eql_struct, show (10000 : Nat) = 9999 + 1 from rfl, run_equalIn_agg w 9999 61 _ _ hS hp]
  simp only [Program.fieldsOf, Try.underlying61]
  by_cases h1 : a = a' <;> by_cases h2 : b = b' <;> by_cases h3 : c = c' <;> simp [Op.eqFields, part, a3, ab, e3, eb, h1, h2, h3]


theorem dscOf_00 : dscOf [0, 0] = (⟨0, 2, (sumN [0, 0] : Nat)⟩, 0) := by
  have h : pieces [0, 0] = ([], 0) := by decide
  unfold dscOf
  rw [h, if_neg (by decide), if_neg]
  · rfl
  · intro hh; apply hh; simp only [Dsc.right, List.length_nil, List.length_cons]; omega

theorem lives18 (h0 : Heap) : Ret Try.prog 29 [] h0 fun v h' => v = .bool true ∧ Ext h0 h' := by
  refine ret_of_X Try.func29 rfl rfl fun w0 hw0 => ?_
  simp only [argE, Nat.zero_add, Nat.reduceAdd]
  refine X_seq ?_
  refine X_reg ?_
  refine XR_a (op_assign rfl) rfl rfl ?_
  refine XR_nil ?_
  refine X_seq ?_
  refine X_reg ?_
  refine XR_wa (opl_call (make_spec h0) rfl (by kernel_rfl)) rfl rfl rfl ?_
  rintro _ hp ⟨rfl, hx⟩
  have st := (St.start h0).ext hx
  refine XR_wa (opl_new (zs := List.replicate 256 (.int .u32 0)) (by kernel_rfl)) rfl rfl rfl ?_
  rintro _ hp ⟨tp, rfl, hnew⟩
  replace st := st.new hnew
  refine XR_wn (opl_store_whole st 0 rfl rfl rfl rfl (by rw [tabV_length]; rfl) tabV_one (by rw [tabV_length, List.length_replicate])) rfl rfl fun _ hp st => ?_
  simp only [List.set_cons_zero, List.set_cons_succ] at st
  refine XR_nil ?_
  refine X_seq ?_
  refine X_reg ?_
  refine XR_wa (opl_lits (([0, 0] : List UInt8).map byteV) rfl rfl rfl rfl (by kernel_rfl) rfl) rfl rfl rfl ?_
  rintro v hp hnew
  replace st := st.new hnew
  obtain ⟨A, n, k, rfl, hlen, hnk, _, hrd⟩ := st.row 0 rfl
  obtain rfl : n = 2 := by simpa using hlen.symm
  refine XR_wa (opl_call (dof_spec (m := 2) (l := [0, 0]) (st.tab 1 rfl) hrd rfl (by omega) hnk) rfl (by kernel_rfl)) rfl rfl rfl ?_
  rintro _ hp ⟨rfl, hx3⟩
  rw [dscOf_00]
  replace st := st.ext hx3
  refine XR_a (op_move rfl) rfl rfl ?_
  refine XR_a (op_extract rfl rfl) rfl rfl ?_
  refine XR_a (op_extract rfl rfl) rfl rfl ?_
  refine XR_wa (opl_new rfl) rfl rfl rfl ?_
  rintro _ hp ⟨p28, rfl, hnew⟩
  replace st := st.new hnew
  refine XR_wn (opl_store_whole (us := dscC ⟨0, 2, (sumN [0, 0] : Nat)⟩) st 0 rfl rfl rfl rfl rfl (dscC_one _) rfl) rfl rfl fun _ hp st => ?_
  simp only [List.set_cons_zero, List.set_cons_succ] at st
  refine XR_a (op_assign rfl) rfl rfl ?_
  refine XR_nil ?_
  refine X_seq ?_
  refine X_reg ?_
  refine XR_a (op_move rfl) rfl rfl ?_
  refine XR_a (op_eql rfl rfl) rfl rfl ?_
  refine XR_as (.bool true) rfl ?_
  refine XR_a (op_move rfl) rfl rfl ?_
  first | refine XR_a (op_field0 rfl rfl) rfl rfl ?_ | refine XR_a (op_fieldn rfl rfl) rfl rfl ?_
  refine XR_a (op_ld (by first | assumption | exact st.cell 0 rfl rfl | exact st.cell 1 rfl rfl | exact st.cell 2 rfl rfl | exact st.cell 3 rfl rfl) rfl rfl rfl) rfl rfl ?_
  refine XR_a (op_eql rfl rfl) rfl rfl ?_
  refine XR_as (.bool true) rfl ?_
  refine XR_a (op_pick_t rfl rfl) rfl rfl ?_
  refine XR_a (op_move rfl) rfl rfl ?_
  first | refine XR_a (op_field0 rfl rfl) rfl rfl ?_ | refine XR_a (op_fieldn rfl rfl) rfl rfl ?_
  refine XR_a (op_ld (by first | assumption | exact st.cell 0 rfl rfl | exact st.cell 1 rfl rfl | exact st.cell 2 rfl rfl | exact st.cell 3 rfl rfl) rfl rfl rfl) rfl rfl ?_
  refine XR_a (op_eql rfl rfl) rfl rfl ?_
  refine XR_as (.bool true) rfl ?_
  refine XR_a (op_pick_t rfl rfl) rfl rfl ?_
  refine XR_a (op_move rfl) rfl rfl ?_
  refine XR_a (op_pick_t rfl rfl) rfl rfl ?_
  refine XR_a (op_assign rfl) rfl rfl ?_
  refine XR_nil ?_
  refine X_ret (.cons (.tmp rfl) .nil) ?_
  exact ⟨rfl, st.low⟩

theorem descPuts_ok {a b c : Nat} {h0 : Heap} (hs : (Dsc.mk a b c).right) (hc : c < 4294967296) : Ret Try.prog 8 [.agg #[.int .i64 (a : Int), .int .i64 (b : Int), .int .u32 (c : Int)]] h0 fun v h' => v = .bool true ∧ Ext h0 h' := by
  refine ret_of_X Try.func8 rfl rfl fun w0 hw0 => ?_
  simp only [argE, Nat.zero_add, Nat.reduceAdd]
  have st := St.start h0
  refine X_seq ?_
  refine X_reg ?_
  refine XR_wa (opl_bx rfl rfl) rfl rfl rfl ?_
  rintro _ hp ⟨p, rfl, hnew⟩
  have st := st.new hnew
  refine XR_a (op_assign rfl) rfl rfl ?_
  refine XR_nil ?_
  refine X_seq ?_
  refine X_reg ?_
  refine XR_wa (opl_call (make_spec _) rfl (by kernel_rfl)) rfl rfl rfl ?_
  rintro _ hp ⟨rfl, hx⟩
  replace st := st.ext hx
  refine XR_wa (opl_new (zs := List.replicate 256 (.int .u32 0)) (by kernel_rfl)) rfl rfl rfl ?_
  rintro _ hp ⟨tp, rfl, hnew⟩
  replace st := st.new hnew
  refine XR_wn (opl_store_whole st 0 rfl rfl rfl rfl (by rw [tabV_length]; rfl) tabV_one (by rw [tabV_length, List.length_replicate])) rfl rfl fun _ hp st => ?_
  simp only [List.set_cons_zero, List.set_cons_succ] at st
  refine XR_nil ?_
  refine X_seq ?_
  refine X_reg ?_
  refine XR_a (op_ldA (st.cells 1 rfl) rfl rfl rfl rfl) rfl rfl ?_
  refine XR_wa (opl_call (dput_ok (st.tab 0 rfl) hs hc) rfl (by kernel_rfl)) rfl rfl rfl ?_
  rintro _ hp ⟨v1, rfl, st2⟩
  replace st := st.join st2
  simp only [List.cons_append, List.nil_append] at st
  obtain ⟨A1, n1, c1, rfl, hlen1, hnc1, _, hrd1⟩ := st.row 0 rfl
  have hbl := (Dsc.mk a b c).bytes_length
  obtain rfl : n1 = 20 := by rw [List.length_map, hbl] at hlen1; omega
  refine XR_a (op_move rfl) rfl rfl ?_
  refine XR_a (op_extract rfl rfl) rfl rfl ?_
  refine XR_a (op_extract rfl rfl) rfl rfl ?_
  refine XR_a (op_assign rfl) rfl rfl ?_
  refine XR_a (op_assign rfl) rfl rfl ?_
  refine XR_nil ?_
  refine X_seq ?_
  refine X_reg ?_
  refine XR_a (op_ldA (st.cells 2 rfl) rfl rfl rfl rfl) rfl rfl ?_
  refine XR_wa (opl_call (dright_ref _ _ _ _) rfl (by kernel_rfl)) rfl rfl rfl ?_
  rintro _ hp ⟨rfl, hx3⟩
  replace st := st.ext hx3
  rw [decide_eq_true hs]
  refine XR_a (op_assign rfl) rfl rfl ?_
  refine XR_nil ?_
  refine X_seq ?_
  refine X_seq ?_
  refine X_reg ?_
  refine XR_a (op_ldA (st.cells 2 rfl) rfl rfl rfl rfl) rfl rfl ?_
  refine XR_wa (opl_call (dright_spec _ _ _ _) rfl (by kernel_rfl)) rfl rfl rfl ?_
  rintro _ hp ⟨rfl, hx3⟩
  replace st := st.ext hx3
  rw [decide_eq_true hs]
  refine XR_a (op_move rfl) rfl rfl ?_
  refine XR_a (op_neqB rfl rfl rfl) rfl rfl ?_
  refine XR_as (.bool false) rfl ?_
  refine XR_nil ?_
  refine X_else rfl ?_
  refine X_skip ?_
  refine X_seq ?_
  refine X_seq ?_
  refine X_reg ?_
  refine XR_a (op_move rfl) rfl rfl ?_
  first | refine XR_a (op_notd rfl) rfl rfl ?_ | refine XR_a (op_not rfl) rfl rfl ?_
  refine XR_nil ?_
  refine X_else rfl ?_
  refine X_skip ?_
  refine X_seq ?_
  refine X_draw (butAt [(6, .grow), (11, .grow)]) (by kernel_rfl) (by kernel_rfl) ?_
  refine XR_a (op_move rfl) rfl rfl ?_
  refine XR_a (op_eql rfl rfl) rfl rfl ?_
  refine XR_as (.bool true) rfl ?_
  refine XR_a (op_move rfl) rfl rfl ?_
  refine XR_a (op_move rfl) rfl rfl ?_
  refine XR_a (op_str (st.rdS 0 rfl).2 rfl hbl rfl rfl rfl) rfl rfl ?_
  refine XR_a (op_ldA (st.cells 2 rfl) rfl rfl rfl rfl) rfl rfl ?_
  refine XR_ga (opl_call (dput_ref hs hc) rfl (by kernel_rfl)) rfl rfl rfl (fun _ _ h => h.low) ?_
  rintro v5 hp st5
  obtain ⟨A5, n5, c5, rfl, hlen5, _, _, hrd5⟩ := st5.row 0 rfl
  replace st := st.ext st5.low
  refine XR_a (op_str hrd5 rfl (by simpa using hlen5) rfl rfl rfl) rfl rfl ?_
  refine XR_a (op_eqlS rfl rfl) rfl rfl ?_
  refine XR_a (op_pick_t rfl rfl) rfl rfl ?_
  refine XR_a (op_move rfl) rfl rfl ?_
  refine XR_if 41 rfl (fun h => ?_) (fun h => ?_)
  · refine XR_ga (opl_call (lives18 _) rfl (by kernel_rfl)) rfl rfl rfl (fun _ _ h => h.2) ?_
    rintro _ hp ⟨rfl, hx⟩
    refine XR_a (op_pick_t rfl rfl) rfl rfl ?_
    refine XR_a (op_assign rfl) rfl rfl ?_
    refine XR_nil ?_
    refine X_ret (.cons (.tmp rfl) .nil) ?_
    exact ⟨rfl, st.low.trans (hx.mono st.low.size)⟩
  · exact absurd rfl h

theorem descPuts_bad {a b c : Int} {h0 : Heap} (hs : ¬ (Dsc.mk a b c).right) : Ret Try.prog 8 [.agg #[.int .i64 a, .int .i64 b, .int .u32 c]] h0 fun v h' => v = .bool true ∧ Ext h0 h' := by
  refine ret_of_X Try.func8 rfl rfl fun w0 hw0 => ?_
  simp only [argE, Nat.zero_add, Nat.reduceAdd]
  have st := St.start h0
  refine X_seq ?_
  refine X_reg ?_
  refine XR_wa (opl_bx rfl rfl) rfl rfl rfl ?_
  rintro _ hp ⟨p, rfl, hnew⟩
  have st := st.new hnew
  refine XR_a (op_assign rfl) rfl rfl ?_
  refine XR_nil ?_
  refine X_seq ?_
  refine X_reg ?_
  refine XR_wa (opl_call (make_spec _) rfl (by kernel_rfl)) rfl rfl rfl ?_
  rintro _ hp ⟨rfl, hx⟩
  replace st := st.ext hx
  refine XR_wa (opl_new (zs := List.replicate 256 (.int .u32 0)) (by kernel_rfl)) rfl rfl rfl ?_
  rintro _ hp ⟨tp, rfl, hnew⟩
  replace st := st.new hnew
  refine XR_wn (opl_store_whole st 0 rfl rfl rfl rfl (by rw [tabV_length]; rfl) tabV_one (by rw [tabV_length, List.length_replicate])) rfl rfl fun _ hp st => ?_
  simp only [List.set_cons_zero, List.set_cons_succ] at st
  refine XR_nil ?_
  refine X_seq ?_
  refine X_reg ?_
  refine XR_a (op_ldA (st.cells 1 rfl) rfl rfl rfl rfl) rfl rfl ?_
  refine XR_wa (opl_call (dput_bad hs) rfl (by kernel_rfl)) rfl rfl rfl ?_
  rintro _ hp ⟨rfl, hx2⟩
  replace st := st.ext hx2
  refine XR_a (op_move rfl) rfl rfl ?_
  refine XR_a (op_extract rfl rfl) rfl rfl ?_
  refine XR_a (op_extract rfl rfl) rfl rfl ?_
  refine XR_a (op_assign rfl) rfl rfl ?_
  refine XR_a (op_assign rfl) rfl rfl ?_
  refine XR_nil ?_
  refine X_seq ?_
  refine X_reg ?_
  refine XR_a (op_ldA (st.cells 1 rfl) rfl rfl rfl rfl) rfl rfl ?_
  refine XR_wa (opl_call (dright_ref _ _ _ _) rfl (by kernel_rfl)) rfl rfl rfl ?_
  rintro _ hp ⟨rfl, hx3⟩
  replace st := st.ext hx3
  rw [decide_eq_false hs]
  refine XR_a (op_assign rfl) rfl rfl ?_
  refine XR_nil ?_
  refine X_seq ?_
  refine X_seq ?_
  refine X_reg ?_
  refine XR_a (op_ldA (st.cells 1 rfl) rfl rfl rfl rfl) rfl rfl ?_
  refine XR_wa (opl_call (dright_spec _ _ _ _) rfl (by kernel_rfl)) rfl rfl rfl ?_
  rintro _ hp ⟨rfl, hx3⟩
  replace st := st.ext hx3
  rw [decide_eq_false hs]
  refine XR_a (op_move rfl) rfl rfl ?_
  refine XR_a (op_neqB rfl rfl rfl) rfl rfl ?_
  refine XR_as (.bool false) rfl ?_
  refine XR_nil ?_
  refine X_else rfl ?_
  refine X_skip ?_
  refine X_seq ?_
  refine X_seq ?_
  refine X_reg ?_
  refine XR_a (op_move rfl) rfl rfl ?_
  first | refine XR_a (op_notd rfl) rfl rfl ?_ | refine XR_a (op_not rfl) rfl rfl ?_
  refine XR_nil ?_
  refine X_then rfl ?_
  refine X_seq ?_
  refine X_reg ?_
  refine XR_a (op_move rfl) rfl rfl ?_
  refine XR_a (op_eql rfl rfl) rfl rfl ?_
  refine XR_as (.bool true) rfl ?_
  refine XR_a (op_move rfl) rfl rfl ?_
  refine XR_a (op_move rfl) rfl rfl ?_
  refine XR_a (op_len rfl rfl rfl) rfl rfl ?_
  refine XR_a (op_eql rfl rfl) rfl rfl ?_
  refine XR_as (.bool true) rfl ?_
  refine XR_a (op_pick_t rfl rfl) rfl rfl ?_
  refine XR_a (op_move rfl) rfl rfl ?_
  refine XR_wa (opl_call (lives18 _) rfl (by kernel_rfl)) rfl rfl rfl ?_
  rintro _ hp ⟨rfl, hx⟩
  refine XR_a (op_pick_t rfl rfl) rfl rfl ?_
  refine XR_a (op_assign rfl) rfl rfl ?_
  refine XR_nil ?_
  refine X_ret (.cons (.tmp rfl) .nil) ?_
  exact ⟨rfl, st.low.trans (hx.mono st.low.size)⟩
theorem descPuts_ret {a b : Int} {c : Int} {h0 : Heap} (hc : inK .u32 c) : Ret Try.prog 8 [.agg #[.int .i64 a, .int .i64 b, .int .u32 c]] h0 fun v h' => v = .bool true ∧ Ext h0 h' := by
  by_cases hs : (Dsc.mk a b c).right
  · have hs' := hs
    simp only [Dsc.right] at hs'
    simp only [inK] at hc
    obtain ⟨a, rfl⟩ : ∃ x : Nat, a = x := ⟨a.toNat, by omega⟩
    obtain ⟨b, rfl⟩ : ∃ x : Nat, b = x := ⟨b.toNat, by omega⟩
    obtain ⟨c, rfl⟩ : ∃ x : Nat, c = x := ⟨c.toNat, by omega⟩
    exact descPuts_ok hs (by omega)
  · exact descPuts_bad hs

theorem descTakes_ret {m c : Nat} {at_ : Int} {A : Option Addr} {l : List UInt8} {h0 : Heap} (hr : Rd h0 A (l.map byteV)) (hl : l.length = m) (hmc : m ≤ c) : Ret Try.prog 11 [.slice A m c, .int .i64 at_] h0 fun v h' => v = .bool true ∧ Ext h0 h' := by
  refine ret_of_X Try.func11 rfl rfl fun w0 hw0 => ?_
  simp only [argE, Nat.zero_add, Nat.reduceAdd]
  refine X_seq ?_
  refine X_reg ?_
  refine XR_a (op_assign rfl) rfl rfl ?_
  refine XR_nil ?_
  refine X_seq ?_
  refine X_seq ?_
  refine X_reg ?_
  refine XR_a (op_move rfl) rfl rfl ?_
  refine XR_a (op_len rfl rfl rfl) rfl rfl ?_
  refine XR_a (op_gtr rfl rfl) rfl rfl ?_
  refine XR_nil ?_
  refine X_if rfl (fun h => ?_) (fun h => ?_)
  · refine X_seq ?_
    refine X_reg ?_
    refine XR_wa (opl_call (lives18 _) rfl (by kernel_rfl)) rfl rfl rfl ?_
    rintro _ hp ⟨rfl, hx⟩
    refine XR_a (op_assign rfl) rfl rfl ?_
    refine XR_nil ?_
    refine X_ret (.cons (.tmp rfl) .nil) ?_
    exact ⟨rfl, hx⟩
  · refine X_skip ?_
    refine X_seq ?_
    have hm : m ≤ 1099511627776 := by omega
    refine X_reg ?_
    refine XR_wa (opl_call (make_spec h0) rfl (by kernel_rfl)) rfl rfl rfl ?_
    rintro _ hp ⟨rfl, hx⟩
    have st := (St.start h0).ext hx
    refine XR_wa (opl_new (zs := List.replicate 256 (.int .u32 0)) (by kernel_rfl)) rfl rfl rfl ?_
    rintro _ hp ⟨tp, rfl, hnew⟩
    replace st := st.new hnew
    refine XR_wn (opl_store_whole st 0 rfl rfl rfl rfl (by rw [tabV_length]; rfl) tabV_one (by rw [tabV_length, List.length_replicate])) rfl rfl fun _ hp st => ?_
    simp only [List.set_cons_zero, List.set_cons_succ] at st
    refine XR_nil ?_
    refine X_seq ?_
    refine X_reg ?_
    refine XR_a (op_move rfl) rfl rfl ?_
    refine XR_a (op_move rfl) rfl rfl ?_
    refine XR_wa (opl_call (dtake_spec (at_ := at_) (st.tab 0 rfl) (hr.ext st.low) hl hm hmc) rfl (by kernel_rfl)) rfl rfl rfl ?_
    rintro _ hp ⟨rfl, hx3⟩
    replace st := st.ext hx3
    obtain ⟨T, hT⟩ : ∃ T, dscTakeAt l at_ = T := ⟨_, rfl⟩
    rw [hT]
    refine XR_a (op_move rfl) rfl rfl ?_
    refine XR_a (op_extract rfl rfl) rfl rfl ?_
    refine XR_a (op_extract rfl rfl) rfl rfl ?_
    refine XR_wa (opl_new rfl) rfl rfl rfl ?_
    rintro _ hp ⟨p28, rfl, hnew⟩
    replace st := st.new hnew
    refine XR_wn (opl_store_whole (us := dscC T.1) st 0 rfl rfl rfl rfl rfl (dscC_one _) rfl) rfl rfl fun _ hp st => ?_
    simp only [List.set_cons_zero, List.set_cons_succ] at st
    refine XR_a (op_assign rfl) rfl rfl ?_
    refine XR_nil ?_
    refine X_seq ?_
    refine X_reg ?_
    refine XR_a (op_move rfl) rfl rfl ?_
    refine XR_a (op_move rfl) rfl rfl ?_
    refine XR_wa (opl_call (dtake_ref (at_ := at_) (hr.ext st.low) hl hm hmc) rfl (by kernel_rfl)) rfl rfl rfl ?_
    rintro _ hp ⟨rfl, hx4⟩
    replace st := st.ext hx4
    rw [hT]
    refine XR_a (op_move rfl) rfl rfl ?_
    refine XR_a (op_extract rfl rfl) rfl rfl ?_
    refine XR_a (op_extract rfl rfl) rfl rfl ?_
    refine XR_wa (opl_new rfl) rfl rfl rfl ?_
    rintro _ hp ⟨p38, rfl, hnew⟩
    replace st := st.new hnew
    refine XR_wn (opl_store_whole (us := dscC T.1) st 0 rfl rfl rfl rfl rfl (dscC_one _) rfl) rfl rfl fun _ hp st => ?_
    simp only [List.set_cons_zero, List.set_cons_succ] at st
    refine XR_a (op_assign rfl) rfl rfl ?_
    refine XR_nil ?_
    refine X_seq ?_
    refine X_reg ?_
    refine XR_a (op_move rfl) rfl rfl ?_
    refine XR_a (op_move rfl) rfl rfl ?_
    refine XR_wa (opl_call (dend_spec (at_ := at_) (hr.ext st.low) hl hm) rfl (by kernel_rfl)) rfl rfl rfl ?_
    rintro _ _ ⟨rfl, rfl⟩
    obtain ⟨U, hU⟩ : ∃ U, dscEnd l at_ = U := ⟨_, rfl⟩
    rw [hU]
    refine XR_a (op_move rfl) rfl rfl ?_
    refine XR_a (op_extract rfl rfl) rfl rfl ?_
    refine XR_a (op_extract rfl rfl) rfl rfl ?_
    refine XR_a (op_assign rfl) rfl rfl ?_
    refine XR_a (op_assign rfl) rfl rfl ?_
    refine XR_nil ?_
    refine X_seq ?_
    refine X_reg ?_
    refine XR_a (op_move rfl) rfl rfl ?_
    refine XR_a (op_move rfl) rfl rfl ?_
    refine XR_wa (opl_call (dend_ref (at_ := at_) (hr.ext st.low) hl hm) rfl (by kernel_rfl)) rfl rfl rfl ?_
    rintro _ _ ⟨rfl, rfl⟩
    rw [hU]
    refine XR_a (op_move rfl) rfl rfl ?_
    refine XR_a (op_extract rfl rfl) rfl rfl ?_
    refine XR_a (op_extract rfl rfl) rfl rfl ?_
    refine XR_a (op_assign rfl) rfl rfl ?_
    refine XR_a (op_assign rfl) rfl rfl ?_
    refine XR_nil ?_
    refine X_seq ?_
    refine X_reg ?_
    refine XR_a (op_ldA (st.cells 1 rfl) rfl rfl rfl rfl) rfl rfl ?_
    refine XR_a (op_ldA (st.cells 0 rfl) rfl rfl rfl rfl) rfl rfl ?_
    refine XR_a (op_eqlH rfl rfl (eq_descD _ _ _ _ _ _) (by kernel_rfl)) rfl rfl ?_
    refine XR_as (.bool true) (by simp) ?_
    refine XR_a (op_move rfl) rfl rfl ?_
    refine XR_a (op_move rfl) rfl rfl ?_
    refine XR_a (op_move rfl) rfl rfl ?_
    refine XR_a (op_eql rfl rfl) rfl rfl ?_
    refine XR_as (.bool true) (by simp) ?_
    refine XR_a (op_pick_t rfl rfl) rfl rfl ?_
    refine XR_a (op_move rfl) rfl rfl ?_
    refine XR_a (op_move rfl) rfl rfl ?_
    refine XR_a (op_move rfl) rfl rfl ?_
    refine XR_a (op_eql rfl rfl) rfl rfl ?_
    refine XR_as (.bool true) (by simp) ?_
    refine XR_a (op_pick_t rfl rfl) rfl rfl ?_
    refine XR_a (op_move rfl) rfl rfl ?_
    refine XR_a (op_move rfl) rfl rfl ?_
    refine XR_a (op_move rfl) rfl rfl ?_
    refine XR_a (op_eql rfl rfl) rfl rfl ?_
    refine XR_as (.bool true) (by simp) ?_
    refine XR_a (op_pick_t rfl rfl) rfl rfl ?_
    refine XR_a (op_move rfl) rfl rfl ?_
    refine XR_wa (opl_call (lives18 _) rfl (by kernel_rfl)) rfl rfl rfl ?_
    rintro _ hp ⟨rfl, hx⟩
    refine XR_a (op_pick_t rfl rfl) rfl rfl ?_
    refine XR_a (op_assign rfl) rfl rfl ?_
    refine XR_nil ?_
    refine X_ret (.cons (.tmp rfl) .nil) ?_
    exact ⟨rfl, st.low.trans (hx.mono st.low.size)⟩

theorem descFits_ret {m c : Nat} {x y z : Int} {A : Option Addr} {l : List UInt8} {h0 : Heap} (hr : Rd h0 A (l.map byteV)) (hl : l.length = m) (hmc : m ≤ c) : Ret Try.prog 7 [.agg #[.int .i64 x, .int .i64 y, .int .u32 z], .slice A m c] h0 fun v h' => v = .bool true ∧ Ext h0 h' := by
  refine ret_of_X Try.func7 rfl rfl fun w0 hw0 => ?_
  simp only [argE, Nat.zero_add, Nat.reduceAdd]
  have st := St.start h0
  refine X_seq ?_
  refine X_reg ?_
  refine XR_wa (opl_bx rfl rfl) rfl rfl rfl ?_
  rintro _ hp ⟨p, rfl, hnew⟩
  have st := st.new hnew
  refine XR_a (op_assign rfl) rfl rfl ?_
  refine XR_nil ?_
  refine X_seq ?_
  refine X_seq ?_
  refine X_reg ?_
  refine XR_a (op_move rfl) rfl rfl ?_
  refine XR_a (op_len rfl rfl rfl) rfl rfl ?_
  refine XR_a (op_gtr rfl rfl) rfl rfl ?_
  refine XR_nil ?_
  refine X_if rfl (fun h => ?_) (fun h => ?_)
  · refine X_seq ?_
    refine X_reg ?_
    refine XR_wa (opl_call (lives18 _) rfl (by kernel_rfl)) rfl rfl rfl ?_
    rintro _ hp ⟨rfl, hx⟩
    refine XR_a (op_assign rfl) rfl rfl ?_
    refine XR_nil ?_
    refine X_ret (.cons (.tmp rfl) .nil) ?_
    exact ⟨rfl, st.low.trans (hx.mono st.low.size)⟩
  · refine X_skip ?_
    refine X_seq ?_
    have hm : m ≤ 1099511627776 := by omega
    refine X_reg ?_
    refine XR_wa (opl_call (make_spec _) rfl (by kernel_rfl)) rfl rfl rfl ?_
    rintro _ hp ⟨rfl, hx⟩
    replace st := st.ext hx
    refine XR_wa (opl_new (zs := List.replicate 256 (.int .u32 0)) (by kernel_rfl)) rfl rfl rfl ?_
    rintro _ hp ⟨tp, rfl, hnew⟩
    replace st := st.new hnew
    refine XR_wn (opl_store_whole st 0 rfl rfl rfl rfl (by rw [tabV_length]; rfl) tabV_one (by rw [tabV_length, List.length_replicate])) rfl rfl fun _ hp st => ?_
    simp only [List.set_cons_zero, List.set_cons_succ] at st
    refine XR_nil ?_
    refine X_seq ?_
    refine X_reg ?_
    refine XR_a (op_move rfl) rfl rfl ?_
    refine XR_wa (opl_call (dof_spec (st.tab 0 rfl) (hr.ext st.low) hl hm hmc) rfl (by kernel_rfl)) rfl rfl rfl ?_
    rintro _ hp ⟨rfl, hx3⟩
    replace st := st.ext hx3
    obtain ⟨T, hT⟩ : ∃ T, dscOf l = T := ⟨_, rfl⟩
    rw [hT]
    refine XR_a (op_move rfl) rfl rfl ?_
    refine XR_a (op_extract rfl rfl) rfl rfl ?_
    refine XR_a (op_extract rfl rfl) rfl rfl ?_
    refine XR_wa (opl_new rfl) rfl rfl rfl ?_
    rintro _ hp ⟨p28, rfl, hnew⟩
    replace st := st.new hnew
    refine XR_wn (opl_store_whole (us := dscC T.1) st 0 rfl rfl rfl rfl rfl (dscC_one _) rfl) rfl rfl fun _ hp st => ?_
    simp only [List.set_cons_zero, List.set_cons_succ] at st
    refine XR_a (op_assign rfl) rfl rfl ?_
    refine XR_nil ?_
    refine X_seq ?_
    refine X_reg ?_
    refine XR_a (op_move rfl) rfl rfl ?_
    refine XR_wa (opl_call (dof_ref (hr.ext st.low) hl hm hmc) rfl (by kernel_rfl)) rfl rfl rfl ?_
    rintro _ hp ⟨rfl, hx4⟩
    replace st := st.ext hx4
    rw [hT]
    refine XR_a (op_move rfl) rfl rfl ?_
    refine XR_a (op_extract rfl rfl) rfl rfl ?_
    refine XR_a (op_extract rfl rfl) rfl rfl ?_
    refine XR_wa (opl_new rfl) rfl rfl rfl ?_
    rintro _ hp ⟨p38, rfl, hnew⟩
    replace st := st.new hnew
    refine XR_wn (opl_store_whole (us := dscC T.1) st 0 rfl rfl rfl rfl rfl (dscC_one _) rfl) rfl rfl fun _ hp st => ?_
    simp only [List.set_cons_zero, List.set_cons_succ] at st
    refine XR_a (op_assign rfl) rfl rfl ?_
    refine XR_nil ?_
    refine X_seq ?_
    refine X_reg ?_
    refine XR_a (op_ldA (st.cells 1 rfl) rfl rfl rfl rfl) rfl rfl ?_
    refine XR_a (op_ldA (st.cells 0 rfl) rfl rfl rfl rfl) rfl rfl ?_
    refine XR_a (op_eqlH rfl rfl (eq_descD _ _ _ _ _ _) (by kernel_rfl)) rfl rfl ?_
    refine XR_as (.bool true) (by simp) ?_
    refine XR_a (op_move rfl) rfl rfl ?_
    refine XR_a (op_move rfl) rfl rfl ?_
    refine XR_a (op_move rfl) rfl rfl ?_
    refine XR_a (op_eql rfl rfl) rfl rfl ?_
    refine XR_as (.bool true) (by simp) ?_
    refine XR_a (op_pick_t rfl rfl) rfl rfl ?_
    refine XR_a (op_move rfl) rfl rfl ?_
    refine XR_a (op_ldA (st.cells 3 rfl) rfl rfl rfl rfl) rfl rfl ?_
    refine XR_a (op_move rfl) rfl rfl ?_
    refine XR_wa (opl_call (dfits_spec (x := x) (y := y) (z := z) (st.tab 2 rfl) (hr.ext st.low) hl hm hmc) rfl (by kernel_rfl)) rfl rfl rfl ?_
    rintro _ hp ⟨rfl, hx5⟩
    replace st := st.ext hx5
    rw [hT]
    refine XR_a (op_move rfl) rfl rfl ?_
    refine XR_a (op_eql rfl rfl) rfl rfl ?_
    refine XR_a (op_move rfl) rfl rfl ?_
    refine XR_if 39 rfl (fun h => ?_) (fun h => ?_)
    · refine XR_a (op_ldA (st.cells 3 rfl) rfl rfl rfl rfl) rfl rfl ?_
      refine XR_a (op_ldA (st.cells 0 rfl) rfl rfl rfl rfl) rfl rfl ?_
      refine XR_a (op_eqlH rfl rfl (eq_descD _ _ _ _ _ _) (by kernel_rfl)) rfl rfl ?_
      refine XR_a (op_pick_t rfl rfl) rfl rfl ?_
      refine XR_a (op_eqlB rfl rfl rfl) rfl rfl ?_
      refine XR_as (.bool true) (congrArg Value.bool (decide_eq_true (decide_eq_decide.2 ⟨fun hh => by rw [hh], fun hh => by
        have e : T = (T.1, T.2) := rfl
        rw [e, show T.1 = Dsc.mk x y z from hh.symm, show T.2 = 0 from h]⟩))) ?_
      refine XR_a (op_pick_t rfl rfl) rfl rfl ?_
      refine XR_a (op_move rfl) rfl rfl ?_
      refine XR_wa (opl_call (lives18 _) rfl (by kernel_rfl)) rfl rfl rfl ?_
      rintro _ hp ⟨rfl, hx⟩
      refine XR_a (op_pick_t rfl rfl) rfl rfl ?_
      refine XR_a (op_assign rfl) rfl rfl ?_
      refine XR_nil ?_
      refine X_ret (.cons (.tmp rfl) .nil) ?_
      exact ⟨rfl, st.low.trans (hx.mono st.low.size)⟩
    · refine XR_no rfl rfl ?_
      refine XR_no rfl rfl ?_
      refine XR_no rfl rfl ?_
      refine XR_a (op_pick_f rfl rfl) rfl rfl ?_
      refine XR_a (op_eqlB rfl rfl rfl) rfl rfl ?_
      refine XR_as (.bool true) (congrArg Value.bool (decide_eq_true (decide_eq_false (fun hh => h (by rw [hh]))))) ?_
      refine XR_a (op_pick_t rfl rfl) rfl rfl ?_
      refine XR_a (op_move rfl) rfl rfl ?_
      refine XR_wa (opl_call (lives18 _) rfl (by kernel_rfl)) rfl rfl rfl ?_
      rintro _ hp ⟨rfl, hx⟩
      refine XR_a (op_pick_t rfl rfl) rfl rfl ?_
      refine XR_a (op_assign rfl) rfl rfl ?_
      refine XR_nil ?_
      refine X_ret (.cons (.tmp rfl) .nil) ?_
      exact ⟨rfl, st.low.trans (hx.mono st.low.size)⟩
end Go.Bn
