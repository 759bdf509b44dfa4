/- The law RunsTakes. -/
import Derived.Test.YtdiglnhhmbhhjaaParts
import Derived.Test.YtdiglnhhmbhhjaaRefRuns
set_option linter.unusedVariables false
set_option linter.unusedSimpArgs false
set_option maxHeartbeats 4000000
set_option maxRecDepth 20000
namespace Go.Bn
open Go Proofs

theorem goT_len (ls : List Nat) (bs : List Bool) (n : Nat) : ∀ f a l, l.length ≤ n → (goT ls bs n f a l).1.length ≤ n
  | 0, _, _, _ => by simp [goT]
  | f + 1, a, l, h => by
    rw [goT]
    split
    · exact h
    · split
      · simp
      · split
        · simp
        · split
          · simp
          · split
            · simp
            · exact goT_len ls bs n f _ _ (by rw [rAdd_len]; omega)
theorem takeR_len (bs : List Bool) (a : Nat) (ok : Bool) : (takeR bs a ok).1.length ≤ 512 := by
  unfold takeR
  split
  · simp
  · have h1 := goT_len (lens19 bs (a + 9) 19) bs (numB bs a 9) 321 (a + 85) [] (by simp)
    have h2 := numB_lt bs a 9
    omega
theorem runsTakes_ret {n c : Nat} {A : Option Addr} {b : List UInt8} {h0 : Heap} (hr : Rd h0 A (b.map byteV)) (hl : b.length = n) (hn : n ≤ 1407374883553280) :
    Ret Try.prog 12 [.slice A n c] h0 fun v h' => v = .bool true ∧ Ext h0 h' := by
  refine ret_of_X Try.func12 rfl rfl fun w0 hw0 => ?_
  simp only [argE, Nat.zero_add, Nat.reduceAdd]
  refine X_seq ?_
  refine X_reg ?_
  refine XR_a (op_assign rfl) rfl rfl ?_
  refine XR_nil ?_
  refine X_seq ?_
  refine X_seq ?_
  refine X_reg ?_
  refine XR_a (op_move rfl) rfl rfl ?_
  refine XR_a (op_len rfl rfl rfl) rfl rfl ?_
  refine XR_a (op_gtr rfl rfl) rfl rfl ?_
  refine XR_nil ?_
  refine X_if rfl (fun h => ?_) (fun h => ?_)
  · refine X_seq ?_
    refine X_reg ?_
    refine XR_wa (opl_call (lives09 h0) rfl (by kernel_rfl)) rfl rfl rfl ?_
    rintro _ hp ⟨rfl, hx⟩
    refine XR_a (op_assign rfl) rfl rfl ?_
    refine XR_nil ?_
    refine X_ret (.cons (.tmp rfl) .nil) ?_
    exact ⟨rfl, hx⟩
  · refine X_skip ?_
    refine X_seq ?_
    refine X_reg ?_
    refine XR_a (op_move rfl) rfl rfl ?_
    refine XR_wa (opl_call (rnew_spec) rfl (by kernel_rfl)) rfl rfl rfl ?_
    rintro _ hp ⟨p, rfl, st⟩
    refine XR_a (op_assign rfl) rfl rfl ?_
    refine XR_nil ?_
    refine X_seq ?_
    refine X_reg ?_
    refine XR_a (op_move rfl) rfl rfl ?_
    refine XR_wa (opl_call (rtake_runs st.here (fun h' hl' => hr.ext (st.low.trans hl')) hl (by omega) (by omega)) rfl (by kernel_rfl)) rfl rfl rfl ?_
    rintro _ hp2 ⟨w, a', rfl, ha', hat, st2⟩
    replace st := st.trans st2
    obtain ⟨A2, n2, c2, rfl, hl2, _, _, hrd2⟩ := st.row 0 rfl
    rw [List.length_map, Nat.mul_one] at hl2
    refine XR_a (op_move rfl) rfl rfl ?_
    refine XR_a (op_extract rfl rfl) rfl rfl ?_
    refine XR_a (op_extract rfl rfl) rfl rfl ?_
    refine XR_a (op_assign rfl) rfl rfl ?_
    refine XR_a (op_assign rfl) rfl rfl ?_
    refine XR_nil ?_
    refine X_seq ?_
    refine X_reg ?_
    refine XR_a (op_move rfl) rfl rfl ?_
    refine XR_wa (opl_call (unpack_ref (hr.ext st.low) hl (by omega)) rfl (by kernel_rfl)) rfl rfl rfl ?_
    rintro v4 hp4 st4
    obtain ⟨A4, n4, c4, rfl, hl4, hc4, _, hrd4⟩ := st4.row 0 rfl
    rw [List.length_map, b01_length, Nat.mul_one, bitsB_length] at hl4
    replace st := st.ext st4.low
    refine XR_wa (opl_call (take09_ref (a := 0) (bs := bitsB b) hrd4 (by rw [bitsB_length]; omega) (by omega) hc4 (by omega)) rfl (by kernel_rfl)) rfl rfl rfl ?_
    rintro _ hp5 ⟨w5, x, rfl, hx5, st5⟩
    obtain ⟨A5, n5, c5, rfl, hl5, _, _, hrd5⟩ := st5.row 0 rfl
    rw [List.length_map, Nat.mul_one] at hl5
    replace st := st.ext st5.low
    have hRl := takeR_len (bitsB b) 0 (okR (bitsB b) 0)
    obtain ⟨R, hR⟩ : ∃ R, takeR (bitsB b) 0 (okR (bitsB b) 0) = R := ⟨_, rfl⟩
    rw [hR] at hat hl2 hl5 hx5 st hRl
    rw [hR] at hrd5
    rw [hR]
    refine XR_a (op_move rfl) rfl rfl ?_
    refine XR_a (op_extract rfl rfl) rfl rfl ?_
    refine XR_a (op_extract rfl rfl) rfl rfl ?_
    refine XR_a (op_extract rfl rfl) rfl rfl ?_
    refine XR_a (op_assign rfl) rfl rfl ?_
    refine XR_a (op_assign rfl) rfl rfl ?_
    refine XR_a (op_assign rfl) rfl rfl ?_
    refine XR_nil ?_
    refine X_seq ?_
    refine X_reg ?_
    refine XR_wa (opl_call (rtake_runs_nil _) rfl (by kernel_rfl)) rfl rfl rfl ?_
    rintro _ _ ⟨rfl, rfl⟩
    refine XR_a (op_move rfl) rfl rfl ?_
    refine XR_a (op_extract rfl rfl) rfl rfl ?_
    refine XR_a (op_extract rfl rfl) rfl rfl ?_
    refine XR_a (op_assign rfl) rfl rfl ?_
    refine XR_a (op_assign rfl) rfl rfl ?_
    refine XR_nil ?_
    refine X_seq ?_
    refine X_reg ?_
    refine XR_a (op_move rfl) rfl rfl ?_
    refine XR_a (op_move rfl) rfl rfl ?_
    refine XR_a (op_eql rfl rfl) rfl rfl ?_
    refine XR_as (.bool true) (congrArg Value.bool (decide_eq_true rfl)) ?_
    refine XR_a (op_move rfl) rfl rfl ?_
    refine XR_a (op_move rfl) rfl rfl ?_
    refine XR_a (op_move rfl) rfl rfl ?_
    refine XR_wa (opl_call (ints_ref (la := R.1.map fun n : Nat => (n : Int)) (lb := R.1.map fun n : Nat => (n : Int)) (by rw [← nV_iV]; exact (st.rdS 0 rfl).2) (by rw [List.length_map]; exact hl2) (by rw [← nV_iV]; exact hrd5) (by rw [List.length_map]; exact hl5) (by have := hl2; omega)) rfl (by kernel_rfl)) rfl rfl rfl ?_
    rintro _ hp7 ⟨rfl, rfl⟩
    rw [decide_eq_true rfl]
    refine XR_a (op_pick_t rfl rfl) rfl rfl ?_
    refine XR_a (op_move rfl) rfl rfl ?_
    refine XR_a (op_move rfl) rfl rfl ?_
    refine XR_a (op_neq rfl rfl) rfl rfl ?_
    refine XR_a (op_move rfl) rfl rfl ?_
    refine XR_if 44 rfl (fun h => ?_) (fun h => ?_)
    · refine XR_no rfl rfl ?_
      refine XR_no rfl rfl ?_
      refine XR_no rfl rfl ?_
      refine XR_no rfl rfl ?_
      refine XR_a (op_pick_t rfl rfl) rfl rfl ?_
      refine XR_a (op_pick_t rfl rfl) rfl rfl ?_
      refine XR_a (op_move rfl) rfl rfl ?_
      refine XR_a (op_move rfl) rfl rfl ?_
      refine XR_a (op_eql rfl rfl) rfl rfl ?_
      refine XR_a (op_pick_t rfl rfl) rfl rfl ?_
      refine XR_a (op_move rfl) rfl rfl ?_
      refine XR_wa (opl_call (lives09 _) rfl (by kernel_rfl)) rfl rfl rfl ?_
      rintro _ hp9 ⟨rfl, hx9⟩
      refine XR_a (op_pick_t rfl rfl) rfl rfl ?_
      refine XR_a (op_assign rfl) rfl rfl ?_
      refine XR_nil ?_
      refine X_ret (.cons (.tmp rfl) .nil) ?_
      exact ⟨rfl, Ext.trans st.low hx9⟩
    · have h44 := h
      refine XR_a (op_move rfl) rfl rfl ?_
      refine XR_wa (opl_call (rat_spec (st.cell 1 rfl rfl)) rfl (by kernel_rfl)) rfl rfl rfl ?_
      rintro _ _ ⟨rfl, rfl⟩
      refine XR_a (op_move rfl) rfl rfl ?_
      refine XR_a (op_eql rfl rfl) rfl rfl ?_
      refine XR_as (.bool true) (congrArg Value.bool (decide_eq_true (by rw [hat (by omega), hx5 (by omega)]))) ?_
      refine XR_a (op_pick_f rfl rfl) rfl rfl ?_
      refine XR_a (op_pick_t rfl rfl) rfl rfl ?_
      refine XR_a (op_move rfl) rfl rfl ?_
      refine XR_a (op_move rfl) rfl rfl ?_
      refine XR_a (op_eql rfl rfl) rfl rfl ?_
      refine XR_a (op_pick_t rfl rfl) rfl rfl ?_
      refine XR_a (op_move rfl) rfl rfl ?_
      refine XR_wa (opl_call (lives09 _) rfl (by kernel_rfl)) rfl rfl rfl ?_
      rintro _ hp9 ⟨rfl, hx9⟩
      refine XR_a (op_pick_t rfl rfl) rfl rfl ?_
      refine XR_a (op_assign rfl) rfl rfl ?_
      refine XR_nil ?_
      refine X_ret (.cons (.tmp rfl) .nil) ?_
      exact ⟨rfl, Ext.trans st.low hx9⟩
end Go.Bn
