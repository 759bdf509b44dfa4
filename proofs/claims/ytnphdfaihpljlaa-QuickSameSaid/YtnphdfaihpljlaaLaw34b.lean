/- The law QuickSame. -/
import Derived.Test.YtnphdfaihpljlaaLaw34
import Derived.Test.YtnphdfaihpljlaaPQuick2
set_option linter.unusedVariables false
set_option linter.unusedSimpArgs false
set_option maxHeartbeats 4000000
set_option maxRecDepth 20000
namespace Go.Bn
open Go Proofs

theorem qtake_none (r : Value) (h0 : Heap) : Ret Try.prog 52 [.pointer none, r] h0 fun v h' => v = retVal [.int .i64 0, .int .i64 1] ∧ h0 = h' := by
  refine ret_of_X Try.func52 rfl rfl fun w0 hw0 => ?_
  simp only [argE, Nat.zero_add, Nat.reduceAdd]
  refine X_seq ?_
  refine X_reg ?_
  refine XR_a (op_assign rfl) rfl rfl ?_
  refine XR_a (op_assign rfl) rfl rfl ?_
  refine XR_nil ?_
  refine X_seq ?_
  refine X_seq ?_
  refine X_reg ?_
  refine XR_a (op_move rfl) rfl rfl ?_
  refine XR_a (op_ptr_nil rfl rfl rfl) rfl rfl ?_
  refine XR_a (op_move rfl) rfl rfl ?_
  refine XR_no rfl rfl ?_
  refine XR_no rfl rfl ?_
  refine XR_a (op_pick_t rfl rfl) rfl rfl ?_
  refine XR_nil ?_
  refine X_then rfl ?_
  refine X_seq ?_
  refine X_reg ?_
  refine XR_a (op_assign rfl) rfl rfl ?_
  refine XR_a (op_assign rfl) rfl rfl ?_
  refine XR_nil ?_
  refine X_ret (.cons (.tmp rfl) (.cons (.tmp rfl) .nil)) ?_
  exact ⟨rfl, rfl⟩
theorem qtake_nil (p : Nat) (h0 : Heap) : Ret Try.prog 52 [.pointer (some ⟨p, 0, none⟩), .pointer none] h0 fun v h' => v = retVal [.int .i64 0, .int .i64 1] ∧ h0 = h' := by
  refine ret_of_X Try.func52 rfl rfl fun w0 hw0 => ?_
  simp only [argE, Nat.zero_add, Nat.reduceAdd]
  refine X_seq ?_
  refine X_reg ?_
  refine XR_a (op_assign rfl) rfl rfl ?_
  refine XR_a (op_assign rfl) rfl rfl ?_
  refine XR_nil ?_
  refine X_seq ?_
  refine X_seq ?_
  refine X_reg ?_
  refine XR_a (op_move rfl) rfl rfl ?_
  refine XR_a (op_ptr_nil rfl rfl rfl) rfl rfl ?_
  refine XR_a (op_move rfl) rfl rfl ?_
  refine XR_a (op_move rfl) rfl rfl ?_
  refine XR_a (op_ptr_nil rfl rfl rfl) rfl rfl ?_
  refine XR_a (op_pick_f rfl rfl) rfl rfl ?_
  refine XR_nil ?_
  refine X_then rfl ?_
  refine X_seq ?_
  refine X_reg ?_
  refine XR_a (op_assign rfl) rfl rfl ?_
  refine XR_a (op_assign rfl) rfl rfl ?_
  refine XR_nil ?_
  refine X_ret (.cons (.tmp rfl) (.cons (.tmp rfl) .nil)) ?_
  exact ⟨rfl, rfl⟩

theorem quickSame_ret {n c m c2 : Nat} {A A2 : Option Addr} {li : List Int} {l : List UInt8} {width : Int} {h0 : Heap} (hr : Rd h0 A (li.map iV)) (hl : li.length = n) (hn : n ≤ 17592186044416) (hrb : Rd h0 A2 (l.map byteV)) (hlb : l.length = m) :
    Ret Try.prog 15 [.slice A n c, .int .i64 width, .slice A2 m c2] h0 fun v h' => v = .bool true ∧ Ext h0 h' := by
  refine ret_of_X Try.func15 rfl rfl fun w0 hw0 => ?_
  simp only [argE, Nat.zero_add, Nat.reduceAdd]
  refine X_seq ?_
  refine X_reg ?_
  refine XR_a (op_assign rfl) rfl rfl ?_
  by_cases hR : rightC li
  · refine XR_nil ?_
    refine X_seq ?_
    refine X_seq ?_
    refine X_reg ?_
    refine XR_a (op_move rfl) rfl rfl ?_
    refine XR_a (op_len rfl rfl rfl) rfl rfl ?_
    refine XR_a (op_gtr rfl rfl) rfl rfl ?_
    refine XR_a (op_move rfl) rfl rfl ?_
    refine XR_if 26 rfl (fun h => ?_) (fun h => ?_)
    · refine XR_no rfl rfl ?_
      refine XR_no rfl rfl ?_
      refine XR_no rfl rfl ?_
      refine XR_a (op_pick_t rfl rfl) rfl rfl ?_
      refine XR_nil ?_
      refine X_then rfl ?_
      refine X_seq ?_
      refine X_reg ?_
      refine XR_wa (opl_call (lives34 _) rfl (by kernel_rfl)) rfl rfl rfl ?_
      rintro _ hp ⟨rfl, hx⟩
      refine XR_a (op_assign rfl) rfl rfl ?_
      refine XR_nil ?_
      refine X_ret (.cons (.tmp rfl) .nil) ?_
      exact ⟨rfl, hx⟩
    · refine XR_a (op_move rfl) rfl rfl ?_
      refine XR_a (op_len rfl rfl rfl) rfl rfl ?_
      refine XR_a (op_gtr rfl rfl) rfl rfl ?_
      refine XR_a (op_pick_f rfl rfl) rfl rfl ?_
      refine XR_nil ?_
      refine X_if rfl (fun h => ?_) (fun h => ?_)
      · refine X_seq ?_
        refine X_reg ?_
        refine XR_wa (opl_call (lives34 _) rfl (by kernel_rfl)) rfl rfl rfl ?_
        rintro _ hp ⟨rfl, hx⟩
        refine XR_a (op_assign rfl) rfl rfl ?_
        refine XR_nil ?_
        refine X_ret (.cons (.tmp rfl) .nil) ?_
        exact ⟨rfl, hx⟩
      · refine X_skip ?_
        refine X_seq ?_
        refine X_reg ?_
        refine XR_a (op_assign rfl) rfl rfl ?_
        refine XR_nil ?_
        refine X_seq ?_
        refine X_seq ?_
        refine X_reg ?_
        refine XR_a (op_move rfl) rfl rfl ?_
        refine XR_a (op_move rfl) rfl rfl ?_
        refine XR_wa (opl_call (rnew_spec) rfl (by kernel_rfl)) rfl rfl rfl ?_
        rintro _ hp1 ⟨r0, rfl, s1⟩
        have hx1 : Ext h0 hp1 := s1.low
        refine XR_wa (opl_call (qtake_none _ _) rfl (by kernel_rfl)) rfl rfl rfl ?_
        rintro _ _ ⟨rfl, rfl⟩
        refine XR_a (op_move rfl) rfl rfl ?_
        refine XR_a (op_extract rfl rfl) rfl rfl ?_
        refine XR_a (op_extract rfl rfl) rfl rfl ?_
        refine XR_a (op_assign rfl) rfl rfl ?_
        refine XR_a (op_assign rfl) rfl rfl ?_
        refine XR_nil ?_
        refine X_seq ?_
        refine X_reg ?_
        refine XR_a (op_move rfl) rfl rfl ?_
        refine XR_a (op_neq rfl rfl) rfl rfl ?_
        refine XR_a (op_move rfl) rfl rfl ?_
        refine XR_a (op_move rfl) rfl rfl ?_
        refine XR_wa (opl_call (qwidth_none _) rfl (by kernel_rfl)) rfl rfl rfl ?_
        rintro _ _ ⟨rfl, rfl⟩
        refine XR_a (op_neq rfl rfl) rfl rfl ?_
        refine XR_a (op_pick_f rfl rfl) rfl rfl ?_
        refine XR_a (op_move rfl) rfl rfl ?_
        refine XR_a (op_move rfl) rfl rfl ?_
        refine XR_wa (opl_call (qsize_none _) rfl (by kernel_rfl)) rfl rfl rfl ?_
        rintro _ _ ⟨rfl, rfl⟩
        refine XR_a (op_neq rfl rfl) rfl rfl ?_
        refine XR_a (op_pick_f rfl rfl) rfl rfl ?_
        refine XR_a (op_move rfl) rfl rfl ?_
        refine XR_a (op_move rfl) rfl rfl ?_
        refine XR_wa (opl_call (qrow_none 0 _) rfl (by kernel_rfl)) rfl rfl rfl ?_
        rintro _ hp2 ⟨rfl, hx2⟩
        replace hx1 := hx1.trans hx2
        refine XR_a (op_build (ps := []) (cs := (rC zeroQ).toArray) rfl rfl) rfl rfl ?_
        refine XR_a (op_neqH rfl rfl (neq_flat (ks := [.i .i64, .i .i64, .b]) (by kernel_rfl) (by kernel_rfl) rfl rfl) (by kernel_rfl)) rfl rfl ?_
        refine XR_as (.bool false) (congrArg Value.bool (by rw [eqL_rC]; simp)) ?_
        refine XR_a (op_pick_f rfl rfl) rfl rfl ?_
        refine XR_nil ?_
        refine X_else rfl ?_
        refine X_skip ?_
        refine X_seq ?_
        refine X_reg ?_
        refine XR_a (op_move rfl) rfl rfl ?_
        refine XR_a (op_move rfl) rfl rfl ?_
        refine XR_wa (opl_call (qnew_spec width (hr.ext hx1) hl hn) rfl (by kernel_rfl)) rfl rfl rfl ?_
        rintro _ hp3 ⟨w2, rfl, hx3, hy3, _⟩
        obtain ⟨p, rfl, st⟩ := hy3 hR
        replace st := St.behind hx1 st
        rw [errC_pos hR]
        refine XR_a (op_move rfl) rfl rfl ?_
        refine XR_a (op_extract rfl rfl) rfl rfl ?_
        refine XR_a (op_extract rfl rfl) rfl rfl ?_
        refine XR_a (op_assign rfl) rfl rfl ?_
        refine XR_a (op_assign rfl) rfl rfl ?_
        refine XR_nil ?_
        refine X_seq ?_
        refine X_reg ?_
        refine XR_a (op_move rfl) rfl rfl ?_
        refine XR_wa (opl_call (cnew_spec (hr.ext (hx1.trans hx3)) hl hn) rfl (by kernel_rfl)) rfl rfl rfl ?_
        rintro _ hp4 ⟨w3, rfl, hx4, hy4, _⟩
        obtain ⟨pc, rfl, sc⟩ := hy4 hR
        replace st := st.join sc
        simp only [List.cons_append, List.nil_append] at st
        rw [errC_pos hR]
        refine XR_a (op_move rfl) rfl rfl ?_
        refine XR_a (op_extract rfl rfl) rfl rfl ?_
        refine XR_a (op_extract rfl rfl) rfl rfl ?_
        refine XR_a (op_assign rfl) rfl rfl ?_
        refine XR_a (op_assign rfl) rfl rfl ?_
        refine XR_nil ?_
        refine X_seq ?_
        refine X_seq ?_
        refine X_reg ?_
        refine XR_a (op_move rfl) rfl rfl ?_
        refine XR_a (op_move rfl) rfl rfl ?_
        refine XR_a (op_neq rfl rfl) rfl rfl ?_
        refine XR_nil ?_
        refine X_else rfl ?_
        refine X_skip ?_
        refine X_seq ?_
        refine X_seq ?_
        refine X_reg ?_
        refine XR_a (op_move rfl) rfl rfl ?_
        refine XR_a (op_neq rfl rfl) rfl rfl ?_
        refine XR_nil ?_
        refine X_else rfl ?_
        refine X_skip ?_
        refine X_seq ?_
        refine X_seq ?_
        refine X_reg ?_
        refine XR_a (op_move rfl) rfl rfl ?_
        refine XR_wa (opl_call (qtake_nil p _) rfl (by kernel_rfl)) rfl rfl rfl ?_
        rintro _ _ ⟨rfl, rfl⟩
        refine XR_a (op_move rfl) rfl rfl ?_
        refine XR_a (op_extract rfl rfl) rfl rfl ?_
        refine XR_a (op_extract rfl rfl) rfl rfl ?_
        refine XR_a (op_assign rfl) rfl rfl ?_
        refine XR_a (op_assign rfl) rfl rfl ?_
        refine XR_nil ?_
        refine X_seq ?_
        refine X_reg ?_
        refine XR_a (op_move rfl) rfl rfl ?_
        refine XR_a (op_neq rfl rfl) rfl rfl ?_
        refine XR_nil ?_
        refine X_else rfl ?_
        refine X_skip ?_
        refine X_seq ?_
        refine X_reg ?_
        refine XR_a (op_move rfl) rfl rfl ?_
        refine XR_wa (opl_call (rnew_spec) rfl (by kernel_rfl)) rfl rfl rfl ?_
        rintro _ hp5 ⟨rx, rfl, s5⟩
        replace st := st.join s5
        simp only [List.cons_append, List.nil_append] at st
        refine XR_a (op_move rfl) rfl rfl ?_
        refine XR_wa (opl_call (rnew_spec) rfl (by kernel_rfl)) rfl rfl rfl ?_
        rintro _ hp6 ⟨ry, rfl, s6⟩
        replace st := st.join s6
        simp only [List.cons_append, List.nil_append] at st
        refine XR_a (op_assign rfl) rfl rfl ?_
        refine XR_a (op_assign rfl) rfl rfl ?_
        refine XR_nil ?_
        refine X_seq ?_
        refine X_seq ?_
        refine X_reg ?_
        refine XR_a (op_assign rfl) rfl rfl ?_
        refine XR_nil ?_
        refine X_block ?_
        have hok := hR.ok
        obtain ⟨ls, hl3⟩ : ∃ ls, li.map Int.toNat = ls := ⟨_, rfl⟩
        rw [hl3] at hok st
        have hQ := qcodes_ok hok
        have hql : (qcodes ls).length ≤ 1000 := Nat.le_trans (codesTo_len _ _) (Nat.le_trans hok.2.1 (by omega))
        obtain ⟨_, hw⟩ := widthN_int width
        obtain ⟨w, hwe⟩ : ∃ w, widthN width = w := ⟨_, rfl⟩
        rw [hwe] at hw st
        replace st := st.re 4 [1, 3, 0, 2] (by decide)
        simp only [List.map_cons, List.map_nil, getR] at st
        refine X_loop (fun s => 8 * m + 1 - s.1) (fun s => [(2, .slice A2 m c2), (10, .pointer (some ⟨p, 0, none⟩)), (12, .pointer (some ⟨pc, 0, none⟩)), (16, .pointer (some ⟨rx, 0, none⟩)), (17, .pointer (some ⟨ry, 0, none⟩)), (18, .int .i64 (s.1 : Nat))])
          (fun (s : Nat × Nat) hp => St h0.size h0 hp [rdG rx A2 m c2 s.2, tabR p (qcodes ls) w, rdG ry A2 m c2 s.2, codeR pc ls] ∧ s.1 ≤ 8 * m + 1 ∧ s.2 ≤ 8 * m)
          (0, 0) (.cons rfl (.cons rfl (.cons rfl (.cons rfl (.cons rfl (.cons rfl (.nil _))))))) ⟨st, Nat.zero_le _, Nat.zero_le _⟩ ?_
        clear st s1 s5 s6
        rintro ⟨i, a⟩ hp ⟨st, hi, ha⟩
        simp only at st hi ha ⊢
        refine X_seq ?_
        refine X_seq ?_
        refine X_reg ?_
        refine XR_a (op_move rfl) rfl rfl ?_
        refine XR_a (op_move rfl) rfl rfl ?_
        refine XR_a (op_len rfl rfl rfl) rfl rfl ?_
        refine XR_a (op_mulN (m := 8) (n := m) rfl rfl (by simp only [inK]; omega)) rfl rfl ?_
        refine XR_a (op_leq rfl rfl) rfl rfl ?_
        refine XR_nil ?_
        refine X_if rfl (fun h => ?_) (fun h => ?_)
        · have hTC := takeQ_C hok w ((bitsB l).drop a)
          have hTle := takeC_le ls ((bitsB l).drop a)
          have hbl : ((bitsB l).drop a).length = 8 * m - a := by rw [List.length_drop, bitsB_length, hlb]
          refine X_skip ?_
          refine X_seq ?_
          refine X_block ?_
          refine X_seq ?_
          refine X_reg ?_
          refine XR_a (op_move rfl) rfl rfl ?_
          refine XR_a (op_move rfl) rfl rfl ?_
          refine XR_wa (opl_call (qtake_spec st.here hQ hw hql (hrb.ext st.low) hlb (by omega) ha) rfl (by kernel_rfl)) rfl rfl rfl ?_
          rintro _ hp2 ⟨rfl, st2⟩
          replace st := (st.trans st2).re 4 [2, 3, 0, 1] (by decide)
          simp only [List.map_cons, List.map_nil, getR] at st
          refine XR_a (op_move rfl) rfl rfl ?_
          refine XR_a (op_extract rfl rfl) rfl rfl ?_
          refine XR_a (op_extract rfl rfl) rfl rfl ?_
          refine XR_a (op_assign rfl) rfl rfl ?_
          refine XR_a (op_assign rfl) rfl rfl ?_
          refine XR_nil ?_
          refine X_seq ?_
          refine X_reg ?_
          refine XR_a (op_move rfl) rfl rfl ?_
          refine XR_a (op_move rfl) rfl rfl ?_
          refine XR_wa (opl_call (ctake_spec st.here hok (hrb.ext st.low) hlb (by omega) ha) rfl (by kernel_rfl)) rfl rfl rfl ?_
          rintro _ hp3 ⟨rfl, st3⟩
          replace st := (st.trans st3).re 4 [2, 3, 0, 1] (by decide)
          simp only [List.map_cons, List.map_nil, getR] at st
          rw [hTC] at st ⊢
          obtain ⟨T, hT⟩ : ∃ T, takeC ls ((bitsB l).drop a) = T := ⟨_, rfl⟩
          rw [hT] at st hTle ⊢
          refine XR_a (op_move rfl) rfl rfl ?_
          refine XR_a (op_extract rfl rfl) rfl rfl ?_
          refine XR_a (op_extract rfl rfl) rfl rfl ?_
          refine XR_a (op_assign rfl) rfl rfl ?_
          refine XR_a (op_assign rfl) rfl rfl ?_
          refine XR_nil ?_
          refine X_seq ?_
          refine X_seq ?_
          refine X_reg ?_
          refine XR_a (op_move rfl) rfl rfl ?_
          refine XR_a (op_move rfl) rfl rfl ?_
          refine XR_a (op_neq rfl rfl) rfl rfl ?_
          refine XR_as (.bool false) (by simp) ?_
          refine XR_a (op_move rfl) rfl rfl ?_
          refine XR_a (op_move rfl) rfl rfl ?_
          refine XR_a (op_move rfl) rfl rfl ?_
          refine XR_a (op_neq rfl rfl) rfl rfl ?_
          refine XR_as (.bool false) (by simp) ?_
          refine XR_a (op_pick_f rfl rfl) rfl rfl ?_
          refine XR_a (op_move rfl) rfl rfl ?_
          refine XR_a (op_move rfl) rfl rfl ?_
          refine XR_wa (opl_call (rat_spec (st.cell 0 rfl rfl)) rfl (by kernel_rfl)) rfl rfl rfl ?_
          rintro _ _ ⟨rfl, rfl⟩
          refine XR_a (op_move rfl) rfl rfl ?_
          refine XR_wa (opl_call (rat_spec (st.cell 2 rfl rfl)) rfl (by kernel_rfl)) rfl rfl rfl ?_
          rintro _ _ ⟨rfl, rfl⟩
          refine XR_a (op_neq rfl rfl) rfl rfl ?_
          refine XR_as (.bool false) (by simp) ?_
          refine XR_a (op_pick_f rfl rfl) rfl rfl ?_
          refine XR_nil ?_
          refine X_else rfl ?_
          refine X_skip ?_
          refine X_seq ?_
          refine X_reg ?_
          refine XR_a (op_move rfl) rfl rfl ?_
          refine XR_a (op_neq rfl rfl) rfl rfl ?_
          refine XR_nil ?_
          refine X_if rfl (fun h => ?_) (fun h => ?_)
          · refine X_exit rfl ?_
            refine X_seq ?_
            refine X_reg ?_
            refine XR_wa (opl_call (lives34 _) rfl (by kernel_rfl)) rfl rfl rfl ?_
            rintro _ hp ⟨rfl, hx⟩
            refine XR_a (op_assign rfl) rfl rfl ?_
            refine XR_nil ?_
            refine X_ret (.cons (.tmp rfl) .nil) ?_
            exact ⟨rfl, Ext.trans st.low hx⟩
          · refine X_skip ?_
            refine X_blk ?_
            refine X_reg ?_
            refine XR_a (op_move rfl) rfl rfl ?_
            first | refine XR_a (op_addN (n := 1) rfl rfl (by simp only [inK]; omega)) rfl rfl ?_ | refine XR_a (op_addI rfl rfl (by simp only [inK]; omega)) rfl rfl ?_ | refine XR_a (op_add rfl rfl) rfl rfl ?_
            refine XR_a (op_assign rfl) rfl rfl ?_
            refine XR_nil ?_
            exact X_again (i + 1, a + T.2.1) (.cons rfl (.cons rfl (.cons rfl (.cons rfl (.cons rfl (.cons rfl (.nil _))))))) ⟨st, by simp only; omega, by simp only; omega⟩ (by simp only; omega)
        · refine X_exit rfl ?_
          refine X_seq ?_
          refine X_reg ?_
          refine XR_wa (opl_call (lives34 _) rfl (by kernel_rfl)) rfl rfl rfl ?_
          rintro _ hp ⟨rfl, hx⟩
          refine XR_a (op_assign rfl) rfl rfl ?_
          refine XR_nil ?_
          refine X_ret (.cons (.tmp rfl) .nil) ?_
          exact ⟨rfl, Ext.trans st.low hx⟩
  · refine XR_nil ?_
    refine X_seq ?_
    refine X_seq ?_
    refine X_reg ?_
    refine XR_a (op_move rfl) rfl rfl ?_
    refine XR_a (op_len rfl rfl rfl) rfl rfl ?_
    refine XR_a (op_gtr rfl rfl) rfl rfl ?_
    refine XR_a (op_move rfl) rfl rfl ?_
    refine XR_if 26 rfl (fun h => ?_) (fun h => ?_)
    · refine XR_no rfl rfl ?_
      refine XR_no rfl rfl ?_
      refine XR_no rfl rfl ?_
      refine XR_a (op_pick_t rfl rfl) rfl rfl ?_
      refine XR_nil ?_
      refine X_then rfl ?_
      refine X_seq ?_
      refine X_reg ?_
      refine XR_wa (opl_call (lives34 _) rfl (by kernel_rfl)) rfl rfl rfl ?_
      rintro _ hp ⟨rfl, hx⟩
      refine XR_a (op_assign rfl) rfl rfl ?_
      refine XR_nil ?_
      refine X_ret (.cons (.tmp rfl) .nil) ?_
      exact ⟨rfl, hx⟩
    · refine XR_a (op_move rfl) rfl rfl ?_
      refine XR_a (op_len rfl rfl rfl) rfl rfl ?_
      refine XR_a (op_gtr rfl rfl) rfl rfl ?_
      refine XR_a (op_pick_f rfl rfl) rfl rfl ?_
      refine XR_nil ?_
      refine X_if rfl (fun h => ?_) (fun h => ?_)
      · refine X_seq ?_
        refine X_reg ?_
        refine XR_wa (opl_call (lives34 _) rfl (by kernel_rfl)) rfl rfl rfl ?_
        rintro _ hp ⟨rfl, hx⟩
        refine XR_a (op_assign rfl) rfl rfl ?_
        refine XR_nil ?_
        refine X_ret (.cons (.tmp rfl) .nil) ?_
        exact ⟨rfl, hx⟩
      · refine X_skip ?_
        refine X_seq ?_
        refine X_reg ?_
        refine XR_a (op_assign rfl) rfl rfl ?_
        refine XR_nil ?_
        refine X_seq ?_
        refine X_seq ?_
        refine X_reg ?_
        refine XR_a (op_move rfl) rfl rfl ?_
        refine XR_a (op_move rfl) rfl rfl ?_
        refine XR_wa (opl_call (rnew_spec) rfl (by kernel_rfl)) rfl rfl rfl ?_
        rintro _ hp1 ⟨r0, rfl, s1⟩
        have hx1 : Ext h0 hp1 := s1.low
        refine XR_wa (opl_call (qtake_none _ _) rfl (by kernel_rfl)) rfl rfl rfl ?_
        rintro _ _ ⟨rfl, rfl⟩
        refine XR_a (op_move rfl) rfl rfl ?_
        refine XR_a (op_extract rfl rfl) rfl rfl ?_
        refine XR_a (op_extract rfl rfl) rfl rfl ?_
        refine XR_a (op_assign rfl) rfl rfl ?_
        refine XR_a (op_assign rfl) rfl rfl ?_
        refine XR_nil ?_
        refine X_seq ?_
        refine X_reg ?_
        refine XR_a (op_move rfl) rfl rfl ?_
        refine XR_a (op_neq rfl rfl) rfl rfl ?_
        refine XR_a (op_move rfl) rfl rfl ?_
        refine XR_a (op_move rfl) rfl rfl ?_
        refine XR_wa (opl_call (qwidth_none _) rfl (by kernel_rfl)) rfl rfl rfl ?_
        rintro _ _ ⟨rfl, rfl⟩
        refine XR_a (op_neq rfl rfl) rfl rfl ?_
        refine XR_a (op_pick_f rfl rfl) rfl rfl ?_
        refine XR_a (op_move rfl) rfl rfl ?_
        refine XR_a (op_move rfl) rfl rfl ?_
        refine XR_wa (opl_call (qsize_none _) rfl (by kernel_rfl)) rfl rfl rfl ?_
        rintro _ _ ⟨rfl, rfl⟩
        refine XR_a (op_neq rfl rfl) rfl rfl ?_
        refine XR_a (op_pick_f rfl rfl) rfl rfl ?_
        refine XR_a (op_move rfl) rfl rfl ?_
        refine XR_a (op_move rfl) rfl rfl ?_
        refine XR_wa (opl_call (qrow_none 0 _) rfl (by kernel_rfl)) rfl rfl rfl ?_
        rintro _ hp2 ⟨rfl, hx2⟩
        replace hx1 := hx1.trans hx2
        refine XR_a (op_build (ps := []) (cs := (rC zeroQ).toArray) rfl rfl) rfl rfl ?_
        refine XR_a (op_neqH rfl rfl (neq_flat (ks := [.i .i64, .i .i64, .b]) (by kernel_rfl) (by kernel_rfl) rfl rfl) (by kernel_rfl)) rfl rfl ?_
        refine XR_as (.bool false) (congrArg Value.bool (by rw [eqL_rC]; simp)) ?_
        refine XR_a (op_pick_f rfl rfl) rfl rfl ?_
        refine XR_nil ?_
        refine X_else rfl ?_
        refine X_skip ?_
        refine X_seq ?_
        refine X_reg ?_
        refine XR_a (op_move rfl) rfl rfl ?_
        refine XR_a (op_move rfl) rfl rfl ?_
        refine XR_wa (opl_call (qnew_spec width (hr.ext hx1) hl hn) rfl (by kernel_rfl)) rfl rfl rfl ?_
        rintro _ hp3 ⟨w2, rfl, hx3, _, hz3⟩
        obtain rfl := hz3 hR
        rw [errC_neg hR]
        refine XR_a (op_move rfl) rfl rfl ?_
        refine XR_a (op_extract rfl rfl) rfl rfl ?_
        refine XR_a (op_extract rfl rfl) rfl rfl ?_
        refine XR_a (op_assign rfl) rfl rfl ?_
        refine XR_a (op_assign rfl) rfl rfl ?_
        refine XR_nil ?_
        refine X_seq ?_
        refine X_reg ?_
        refine XR_a (op_move rfl) rfl rfl ?_
        refine XR_wa (opl_call (cnew_spec (hr.ext (hx1.trans hx3)) hl hn) rfl (by kernel_rfl)) rfl rfl rfl ?_
        rintro _ hp4 ⟨w3, rfl, hx4, _, hz4⟩
        obtain rfl := hz4 hR
        rw [errC_neg hR]
        refine XR_a (op_move rfl) rfl rfl ?_
        refine XR_a (op_extract rfl rfl) rfl rfl ?_
        refine XR_a (op_extract rfl rfl) rfl rfl ?_
        refine XR_a (op_assign rfl) rfl rfl ?_
        refine XR_a (op_assign rfl) rfl rfl ?_
        refine XR_nil ?_
        refine X_seq ?_
        refine X_seq ?_
        refine X_reg ?_
        refine XR_a (op_move rfl) rfl rfl ?_
        refine XR_a (op_move rfl) rfl rfl ?_
        refine XR_a (op_neq rfl rfl) rfl rfl ?_
        refine XR_nil ?_
        refine X_else rfl ?_
        refine X_skip ?_
        refine X_seq ?_
        refine X_seq ?_
        refine X_reg ?_
        refine XR_a (op_move rfl) rfl rfl ?_
        refine XR_a (op_neq rfl rfl) rfl rfl ?_
        refine XR_nil ?_
        refine X_then rfl ?_
        refine X_seq ?_
        refine X_reg ?_
        refine XR_a (op_move rfl) rfl rfl ?_
        refine XR_a (op_ptr_nil rfl rfl rfl) rfl rfl ?_
        refine XR_a (op_move rfl) rfl rfl ?_
        refine XR_wa (opl_call (lives34 _) rfl (by kernel_rfl)) rfl rfl rfl ?_
        rintro _ hp ⟨rfl, hx⟩
        refine XR_a (op_pick_t rfl rfl) rfl rfl ?_
        refine XR_a (op_assign rfl) rfl rfl ?_
        refine XR_nil ?_
        refine X_ret (.cons (.tmp rfl) .nil) ?_
        exact ⟨rfl, ((hx1.trans hx3).trans hx4).trans hx⟩
end Go.Bn
