/- The laws CrcSums, CrcTables and CrcJoins come to true. -/
import Derived.Test.YtocbgepeipfpaaaCrc
set_option linter.unusedVariables false
set_option linter.unusedSimpArgs false
set_option maxHeartbeats 4000000
namespace Go.Bn
open Go Proofs

theorem lives01 (h0 : Heap) : Ret Try.prog 25 [] h0 fun v h' => v = .bool true ∧ Ext h0 h' := by
  have e : sumN [49, 50, 51, 52, 53, 54, 55, 56, 57] = 3421780262 := by decide +kernel
  refine ret_of_X Try.func25 rfl rfl fun w0 hw0 => ?_
  simp only [argE, Nat.zero_add, Nat.reduceAdd]
  refine X_seq ?_
  refine X_reg ?_
  refine XR_a (op_assign rfl) rfl rfl ?_
  refine XR_nil ?_
  refine X_seq ?_
  refine X_reg ?_
  refine XR_wa (opl_call (make_spec h0) rfl (by kernel_rfl)) rfl rfl rfl ?_
  rintro _ hp ⟨rfl, hx⟩
  have st := (St.start h0).ext hx
  refine XR_wa (opl_new (zs := List.replicate 256 (.int .u32 0)) (by kernel_rfl)) rfl rfl rfl ?_
  rintro _ hp ⟨p, rfl, hnew⟩
  replace st := st.new hnew
  refine XR_wn (opl_store_whole st 0 rfl rfl rfl rfl (by rw [tabV_length]; rfl) tabV_one (by rw [tabV_length, List.length_replicate])) rfl rfl fun _ hp st => ?_
  simp only [List.set_cons_zero, List.set_cons_succ] at st
  refine XR_nil ?_
  refine X_seq ?_
  refine X_reg ?_
  refine XR_wa (opl_lits (([49, 50, 51, 52, 53, 54, 55, 56, 57] : List UInt8).map byteV) rfl rfl rfl rfl (by kernel_rfl) rfl) rfl rfl rfl ?_
  rintro v hp hnew
  replace st := st.new hnew
  obtain ⟨A, n, c, rfl, hlen, _, _, hrd⟩ := st.row 0 rfl
  obtain ⟨b, o, rfl, _⟩ := hrd.at_ (by decide)
  refine XR_wa (opl_bytesLit st 0 rfl rfl rfl) rfl rfl rfl ?_
  rintro _ hp ⟨rfl, st⟩
  replace hrd := (st.rdS 0 rfl).2
  refine XR_wa (opl_call (sum_spec (st.tab 1 rfl) hrd (by simpa using hlen) (by simp at hlen; omega)) rfl (by kernel_rfl)) rfl rfl rfl ?_
  rintro _ _ ⟨rfl, rfl⟩
  rw [e]
  refine XR_a (op_eql rfl rfl) rfl rfl ?_
  refine XR_a (op_assign rfl) rfl rfl ?_
  refine XR_nil ?_
  refine X_ret (.cons (.tmp rfl) .nil) ?_
  exact ⟨rfl, st.low⟩

theorem crcSums_ret {n m c : Nat} {A : Option Addr} {l : List UInt8} {h0 : Heap} (hr : Rd h0 A (l.map byteV)) (hl : l.length = m) (hn : n < 4294967296) :
    Ret Try.prog 6 [.int .u32 (n : Int), .slice A m c] h0 fun v h' => v = .bool true ∧ Ext h0 h' := by
  refine ret_of_X Try.func6 rfl rfl fun w0 hw0 => ?_
  simp only [argE, Nat.zero_add, Nat.reduceAdd]
  refine X_seq ?_
  refine X_reg ?_
  refine XR_a (op_assign rfl) rfl rfl ?_
  refine XR_nil ?_
  refine X_seq ?_
  refine X_seq ?_
  refine X_reg ?_
  refine XR_a (op_move rfl) rfl rfl ?_
  refine XR_a (op_len rfl rfl rfl) rfl rfl ?_
  refine XR_a (op_gtr rfl rfl) rfl rfl ?_
  refine XR_nil ?_
  refine X_if rfl (fun h => ?_) (fun h => ?_)
  · refine X_seq ?_
    refine X_reg ?_
    refine XR_wa (opl_call (lives01 _) rfl (by kernel_rfl)) rfl rfl rfl ?_
    rintro _ hp ⟨rfl, hx⟩
    refine XR_a (op_assign rfl) rfl rfl ?_
    refine XR_nil ?_
    refine X_ret (.cons (.tmp rfl) .nil) ?_
    exact ⟨rfl, hx⟩
  · refine X_skip ?_
    refine X_seq ?_
    refine X_reg ?_
    refine XR_wa (opl_call (make_spec h0) rfl (by kernel_rfl)) rfl rfl rfl ?_
    rintro _ hp ⟨rfl, hx⟩
    have st := (St.start h0).ext hx
    refine XR_wa (opl_new (zs := List.replicate 256 (.int .u32 0)) (by kernel_rfl)) rfl rfl rfl ?_
    rintro _ hp ⟨p, rfl, hnew⟩
    replace st := st.new hnew
    refine XR_wn (opl_store_whole st 0 rfl rfl rfl rfl (by rw [tabV_length]; rfl) tabV_one (by rw [tabV_length, List.length_replicate])) rfl rfl fun _ hp st => ?_
    simp only [List.set_cons_zero, List.set_cons_succ] at st
    refine XR_nil ?_
    refine X_seq ?_
    refine X_reg ?_
    refine XR_a (op_move rfl) rfl rfl ?_
    refine XR_a (op_move rfl) rfl rfl ?_
    refine XR_wa (opl_call (go_spec (st.tab 0 rfl) hn (hr.ext st.low) hl (by omega)) rfl (by kernel_rfl)) rfl rfl rfl ?_
    rintro _ _ ⟨rfl, rfl⟩
    refine XR_a (op_move rfl) rfl rfl ?_
    refine XR_a (op_move rfl) rfl rfl ?_
    refine XR_wa (opl_call (go_ref hn (hr.ext st.low) hl (by omega)) rfl (by kernel_rfl)) rfl rfl rfl ?_
    rintro _ _ ⟨rfl, rfl⟩
    refine XR_a (op_eql rfl rfl) rfl rfl ?_
    refine XR_a (op_move rfl) rfl rfl ?_
    refine XR_if 18 rfl (fun h => ?_) (fun h => ?_)
    · refine XR_a (op_move rfl) rfl rfl ?_
      refine XR_wa (opl_call (sum_spec (st.tab 0 rfl) (hr.ext st.low) hl (by omega)) rfl (by kernel_rfl)) rfl rfl rfl ?_
      rintro _ _ ⟨rfl, rfl⟩
      refine XR_a (op_move rfl) rfl rfl ?_
      refine XR_wa (opl_call (sum_ref (hr.ext st.low) hl (by omega)) rfl (by kernel_rfl)) rfl rfl rfl ?_
      rintro _ _ ⟨rfl, rfl⟩
      refine XR_a (op_eql rfl rfl) rfl rfl ?_
      refine XR_a (op_pick_t rfl rfl) rfl rfl ?_
      refine XR_a (op_move rfl) rfl rfl ?_
      refine XR_if 25 rfl (fun h => ?_) (fun h => ?_)
      · refine XR_wa (opl_call (lives01 _) rfl (by kernel_rfl)) rfl rfl rfl ?_
        rintro _ hp ⟨rfl, hx⟩
        refine XR_a (op_pick_t rfl rfl) rfl rfl ?_
        refine XR_a (op_assign rfl) rfl rfl ?_
        refine XR_nil ?_
        refine X_ret (.cons (.tmp rfl) .nil) ?_
        exact ⟨rfl, st.low.trans (hx.mono st.low.size)⟩
      · exact absurd rfl h
    · exact absurd rfl h

theorem crcTables_ret {i m c : Nat} {A : Option Addr} {l : List UInt8} {h0 : Heap} (hi : i < 256) :
    Ret Try.prog 8 [.int .u8 (i : Int), .slice A m c] h0 fun v h' => v = .bool true ∧ Ext h0 h' := by
  refine ret_of_X Try.func8 rfl rfl fun w0 hw0 => ?_
  simp only [argE, Nat.zero_add, Nat.reduceAdd]
  refine X_seq ?_
  refine X_reg ?_
  refine XR_a (op_assign rfl) rfl rfl ?_
  refine XR_nil ?_
  refine X_seq ?_
  refine X_reg ?_
  refine XR_wa (opl_call (make_spec h0) rfl (by kernel_rfl)) rfl rfl rfl ?_
  rintro _ hp ⟨rfl, hx⟩
  have st := (St.start h0).ext hx
  refine XR_wa (opl_new (zs := List.replicate 256 (.int .u32 0)) (by kernel_rfl)) rfl rfl rfl ?_
  rintro _ hp ⟨p, rfl, hnew⟩
  replace st := st.new hnew
  refine XR_wn (opl_store_whole st 0 rfl rfl rfl rfl (by rw [tabV_length]; rfl) tabV_one (by rw [tabV_length, List.length_replicate])) rfl rfl fun _ hp st => ?_
  simp only [List.set_cons_zero, List.set_cons_succ] at st
  refine XR_nil ?_
  refine X_seq ?_
  refine X_reg ?_
  refine XR_a (op_assign rfl) rfl rfl ?_
  refine XR_nil ?_
  refine X_seq ?_
  refine X_draw (butAt [(5, .grow), (10, .grow), (16, .grow), (23, .grow), (27, .grow)]) (by kernel_rfl) (by kernel_rfl) ?_
  refine XR_a (op_move rfl) rfl rfl ?_
  first | refine XR_a (op_indexA1 rfl rfl rfl (by omega)) rfl rfl ?_ | refine XR_a (op_indexA rfl rfl rfl (by omega)) rfl rfl ?_
  refine XR_a (op_ld (ad := ⟨p, i, none⟩) (st.tab 0 rfl i hi) (by simp only [ev, Env.get_cons]; simp) rfl rfl) rfl rfl ?_
  refine XR_a (op_move rfl) rfl rfl ?_
  first | refine XR_a (op_convI rfl rfl (by simp only [inK]; omega)) rfl rfl ?_ | refine XR_a (op_convU rfl rfl rfl) rfl rfl ?_ | refine XR_a (op_conv rfl rfl) rfl rfl ?_
  refine XR_ga (opl_call (turns_ref (n := i) (k := 8) (by omega) (by omega) _) rfl (by kernel_rfl)) rfl rfl rfl (fun _ _ h => h.2 ▸ Low.refl _ _) ?_
  rintro _ _ ⟨rfl, rfl⟩
  refine XR_a (op_eql rfl rfl) rfl rfl ?_
  refine XR_a (op_move rfl) rfl rfl ?_
  refine XR_if 15 rfl (fun h => ?_) (fun h => ?_)
  · refine XR_a (op_move rfl) rfl rfl ?_
    refine XR_a (op_move rfl) rfl rfl ?_
    refine XR_ga (opl_call (go_none 1 _ _) rfl (by kernel_rfl)) rfl rfl rfl (fun _ _ h => h.2 ▸ Low.refl _ _) ?_
    rintro _ _ ⟨rfl, rfl⟩
    refine XR_a (op_eql rfl rfl) rfl rfl ?_
    refine XR_a (op_pick_t rfl rfl) rfl rfl ?_
    refine XR_a (op_move rfl) rfl rfl ?_
    refine XR_if 21 rfl (fun h => ?_) (fun h => ?_)
    · refine XR_a (op_move rfl) rfl rfl ?_
      refine XR_a (op_move rfl) rfl rfl ?_
      refine XR_ga (opl_call (sum_none _ _) rfl (by kernel_rfl)) rfl rfl rfl (fun _ _ h => h.2 ▸ Low.refl _ _) ?_
      rintro _ _ ⟨rfl, rfl⟩
      refine XR_a (op_eql rfl rfl) rfl rfl ?_
      refine XR_a (op_pick_t rfl rfl) rfl rfl ?_
      refine XR_a (op_move rfl) rfl rfl ?_
      refine XR_if 27 rfl (fun h => ?_) (fun h => ?_)
      · refine XR_a (op_move rfl) rfl rfl ?_
        refine XR_a (op_move rfl) rfl rfl ?_
        refine XR_a (op_move rfl) rfl rfl ?_
        refine XR_ga (opl_call (join_none _ _ _) rfl (by kernel_rfl)) rfl rfl rfl (fun _ _ h => h.2 ▸ Low.refl _ _) ?_
        rintro _ _ ⟨rfl, rfl⟩
        refine XR_a (op_eql rfl rfl) rfl rfl ?_
        refine XR_a (op_pick_t rfl rfl) rfl rfl ?_
        refine XR_a (op_move rfl) rfl rfl ?_
        refine XR_if 34 rfl (fun h => ?_) (fun h => ?_)
        · refine XR_ga (opl_call (lives01 _) rfl (by kernel_rfl)) rfl rfl rfl (fun _ _ h => h.2) ?_
          rintro _ hp ⟨rfl, hx⟩
          refine XR_a (op_pick_t rfl rfl) rfl rfl ?_
          refine XR_a (op_assign rfl) rfl rfl ?_
          refine XR_nil ?_
          refine X_ret (.cons (.tmp rfl) .nil) ?_
          exact ⟨rfl, st.low.trans (hx.mono st.low.size)⟩
        · exact absurd rfl h
      · exact absurd rfl h
    · exact absurd rfl h
  · exact absurd rfl h

theorem crcJoins_ret {m c m2 c2 : Nat} {A A2 : Option Addr} {l l2 : List UInt8} {h0 : Heap} (hr : Rd h0 A (l.map byteV)) (hl : l.length = m) (hr2 : Rd h0 A2 (l2.map byteV)) (hl2 : l2.length = m2) :
    Ret Try.prog 9 [.slice A m c, .slice A2 m2 c2] h0 fun v h' => v = .bool true ∧ Ext h0 h' := by
  refine ret_of_X Try.func9 rfl rfl fun w0 hw0 => ?_
  simp only [argE, Nat.zero_add, Nat.reduceAdd]
  refine X_seq ?_
  refine X_reg ?_
  refine XR_a (op_assign rfl) rfl rfl ?_
  refine XR_nil ?_
  refine X_seq ?_
  refine X_seq ?_
  refine X_reg ?_
  refine XR_a (op_move rfl) rfl rfl ?_
  refine XR_a (op_len rfl rfl rfl) rfl rfl ?_
  refine XR_a (op_gtr rfl rfl) rfl rfl ?_
  refine XR_a (op_move rfl) rfl rfl ?_
  refine XR_if 10 rfl (fun h => ?_) (fun h => ?_)
  · refine XR_no rfl rfl ?_
    refine XR_no rfl rfl ?_
    refine XR_no rfl rfl ?_
    refine XR_a (op_pick_t rfl rfl) rfl rfl ?_
    refine XR_nil ?_
    refine X_then rfl ?_
    refine X_seq ?_
    refine X_reg ?_
    refine XR_wa (opl_call (lives01 _) rfl (by kernel_rfl)) rfl rfl rfl ?_
    rintro _ hp ⟨rfl, hx⟩
    refine XR_a (op_assign rfl) rfl rfl ?_
    refine XR_nil ?_
    refine X_ret (.cons (.tmp rfl) .nil) ?_
    exact ⟨rfl, hx⟩
  · refine XR_a (op_move rfl) rfl rfl ?_
    refine XR_a (op_len rfl rfl rfl) rfl rfl ?_
    refine XR_a (op_gtr rfl rfl) rfl rfl ?_
    refine XR_a (op_pick_f rfl rfl) rfl rfl ?_
    refine XR_nil ?_
    refine X_if rfl (fun h => ?_) (fun h => ?_)
    · refine X_seq ?_
      refine X_reg ?_
      refine XR_wa (opl_call (lives01 _) rfl (by kernel_rfl)) rfl rfl rfl ?_
      rintro _ hp ⟨rfl, hx⟩
      refine XR_a (op_assign rfl) rfl rfl ?_
      refine XR_nil ?_
      refine X_ret (.cons (.tmp rfl) .nil) ?_
      exact ⟨rfl, hx⟩
    · refine X_skip ?_
      refine X_seq ?_
      refine X_reg ?_
      refine XR_wa (opl_call (make_spec h0) rfl (by kernel_rfl)) rfl rfl rfl ?_
      rintro _ hp ⟨rfl, hx⟩
      have st := (St.start h0).ext hx
      refine XR_wa (opl_new (zs := List.replicate 256 (.int .u32 0)) (by kernel_rfl)) rfl rfl rfl ?_
      rintro _ hp ⟨p, rfl, hnew⟩
      replace st := st.new hnew
      refine XR_wn (opl_store_whole st 0 rfl rfl rfl rfl (by rw [tabV_length]; rfl) tabV_one (by rw [tabV_length, List.length_replicate])) rfl rfl fun _ hp st => ?_
      simp only [List.set_cons_zero, List.set_cons_succ] at st
      refine XR_nil ?_
      refine X_seq ?_
      refine X_reg ?_
      refine XR_a (op_move rfl) rfl rfl ?_
      refine XR_a (op_move rfl) rfl rfl ?_
      refine XR_wa (opl_call (join_spec (st.tab 0 rfl) (hr.ext st.low) hl (by omega) (hr2.ext st.low) hl2 (by omega)) rfl (by kernel_rfl)) rfl rfl rfl ?_
      rintro _ _ ⟨rfl, rfl⟩
      refine XR_a (op_assign rfl) rfl rfl ?_
      refine XR_nil ?_
      refine X_seq ?_
      refine X_reg ?_
      refine XR_a (op_move rfl) rfl rfl ?_
      refine XR_wa (opl_lit0 rfl) rfl rfl rfl ?_
      rintro v hp hnew
      replace st := st.new hnew
      refine XR_a (op_move rfl) rfl rfl ?_
      refine XR_wa (opl_append st 0 rfl (hr.ext st.low) (by simpa using hl) (one_bytes _) (by simp; omega) rfl rfl rfl rfl rfl rfl rfl) rfl rfl rfl fun v hp st => ?_
      simp only [List.set_cons_zero, List.set_cons_succ] at st
      refine XR_a (op_move rfl) rfl rfl ?_
      refine XR_wa (opl_append st 0 rfl (hr2.ext st.low) (by simpa using hl2) (one_bytes _) (by simp; omega) rfl rfl rfl rfl rfl rfl rfl) rfl rfl rfl fun v hp st => ?_
      simp only [List.set_cons_zero, List.set_cons_succ] at st
      rw [List.nil_append, ← List.map_append] at st
      obtain ⟨A3, n3, c3, rfl, hlen, _, _, hrd⟩ := st.row 0 rfl
      refine XR_wa (opl_call (sum_spec (st.tab 1 rfl) hrd (by simpa using hlen) (by simp at hlen; omega)) rfl (by kernel_rfl)) rfl rfl rfl ?_
      rintro _ _ ⟨rfl, rfl⟩
      refine XR_a (op_eql rfl rfl) rfl rfl ?_
      refine XR_a (op_move rfl) rfl rfl ?_
      refine XR_if 28 rfl (fun h => ?_) (fun h => ?_)
      · refine XR_a (op_move rfl) rfl rfl ?_
        refine XR_a (op_move rfl) rfl rfl ?_
        refine XR_wa (opl_call (sum_spec (st.tab 1 rfl) (hr.ext st.low) hl (by omega)) rfl (by kernel_rfl)) rfl rfl rfl ?_
        rintro _ _ ⟨rfl, rfl⟩
        have hs := sumN_lt l
        have hg := goN_lt l (n := 4294967295) (by omega)
        refine XR_a (op_com32 rfl hs) rfl rfl ?_
        rw [sumN, xor_all]
        have hg2 := goN_lt l2 hg
        refine XR_a (op_move rfl) rfl rfl ?_
        refine XR_wa (opl_call (go_spec (st.tab 1 rfl) hg (hr2.ext st.low) hl2 (by omega)) rfl (by kernel_rfl)) rfl rfl rfl ?_
        rintro _ _ ⟨rfl, rfl⟩
        refine XR_a (op_com32 rfl (goN_lt l2 hg)) rfl rfl ?_
        rw [← goN_append, ← sumN]
        refine XR_a (op_eql rfl rfl) rfl rfl ?_
        refine XR_a (op_pick_t rfl rfl) rfl rfl ?_
        refine XR_a (op_move rfl) rfl rfl ?_
        refine XR_if 38 rfl (fun h => ?_) (fun h => ?_)
        · refine XR_wa (opl_call (lives01 _) rfl (by kernel_rfl)) rfl rfl rfl ?_
          rintro _ hp ⟨rfl, hx⟩
          refine XR_a (op_pick_t rfl rfl) rfl rfl ?_
          refine XR_a (op_assign rfl) rfl rfl ?_
          refine XR_nil ?_
          refine X_ret (.cons (.tmp rfl) .nil) ?_
          exact ⟨rfl, st.low.trans (hx.mono st.low.size)⟩
        · exact absurd rfl h
      · exact absurd rfl h
end Go.Bn
