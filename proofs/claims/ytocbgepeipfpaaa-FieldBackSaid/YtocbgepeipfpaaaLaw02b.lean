/- The laws FieldStays and FieldBack come to true. -/
import Derived.Test.YtocbgepeipfpaaaFieldR
set_option linter.unusedVariables false
set_option linter.unusedSimpArgs false
set_option maxHeartbeats 4000000
namespace Go.Bn
open Go Proofs

theorem fieldStays_ret {m c m2 c2 : Nat} {A A2 : Option Addr} {l : List UInt8} {ps : List (Int × Int)} {h0 : Heap} (hl : l.length = m) (hr2 : Rd h0 A2 (ps.flatMap pairII)) (hl2 : ps.length = m2) :
    Ret Try.prog 12 [.slice A m c, .slice A2 m2 c2] h0 fun v h' => v = .bool true ∧ Ext h0 h' := by
  refine ret_of_X Try.func12 rfl rfl fun w0 hw0 => ?_
  simp only [argE, Nat.zero_add, Nat.reduceAdd]
  refine X_seq ?_
  refine X_reg ?_
  refine XR_a (op_assign rfl) rfl rfl ?_
  refine XR_nil ?_
  refine X_seq ?_
  refine X_seq ?_
  refine X_reg ?_
  refine XR_a (op_move rfl) rfl rfl ?_
  refine XR_a (op_len rfl rfl rfl) rfl rfl ?_
  refine XR_a (op_gtr rfl rfl) rfl rfl ?_
  refine XR_a (op_move rfl) rfl rfl ?_
  refine XR_if 11 rfl (fun h => ?_) (fun h => ?_)
  · refine XR_no rfl rfl ?_
    refine XR_no rfl rfl ?_
    refine XR_no rfl rfl ?_
    refine XR_a (op_pick_t rfl rfl) rfl rfl ?_
    refine XR_nil ?_
    refine X_then rfl ?_
    refine X_seq ?_
    refine X_reg ?_
    refine XR_wa (opl_call (lives02 _) rfl (by kernel_rfl)) rfl rfl rfl ?_
    rintro _ hp ⟨rfl, hx⟩
    refine XR_a (op_assign rfl) rfl rfl ?_
    refine XR_nil ?_
    refine X_ret (.cons (.tmp rfl) .nil) ?_
    exact ⟨rfl, hx⟩
  · refine XR_a (op_move rfl) rfl rfl ?_
    refine XR_a (op_len rfl rfl rfl) rfl rfl ?_
    refine XR_a (op_gtr rfl rfl) rfl rfl ?_
    refine XR_a (op_pick_f rfl rfl) rfl rfl ?_
    refine XR_nil ?_
    refine X_if rfl (fun h => ?_) (fun h => ?_)
    · refine X_seq ?_
      refine X_reg ?_
      refine XR_wa (opl_call (lives02 _) rfl (by kernel_rfl)) rfl rfl rfl ?_
      rintro _ hp ⟨rfl, hx⟩
      refine XR_a (op_assign rfl) rfl rfl ?_
      refine XR_nil ?_
      refine X_ret (.cons (.tmp rfl) .nil) ?_
      exact ⟨rfl, hx⟩
    · refine X_skip ?_
      refine X_seq ?_
      refine X_reg ?_
      refine XR_a (op_move rfl) rfl rfl ?_
      refine XR_wa (opl_call (fnew_spec) rfl (by kernel_rfl)) rfl rfl rfl ?_
      rintro _ hp ⟨pr, rfl, st⟩
      refine XR_a (op_assign rfl) rfl rfl ?_
      refine XR_nil ?_
      refine X_seq ?_
      refine X_reg ?_
      refine XR_a (op_move rfl) rfl rfl ?_
      refine XR_wa (opl_call (fbytes_neg (n := -1) st.here (by omega)) rfl (by kernel_rfl)) rfl rfl rfl ?_
      rintro _ hp ⟨rfl, st2⟩
      replace st := st.trans st2
      clear st2
      refine XR_nil ?_
      refine X_seq ?_
      refine X_seq ?_
      refine X_reg ?_
      refine XR_a (op_assign rfl) rfl rfl ?_
      refine XR_nil ?_
      refine X_block ?_
      refine X_loop (fun s => m2 - s) (fun s => [(1, .slice A2 m2 c2), (5, .pointer (some ⟨pr, 0, none⟩)), (6, .int .i64 (s : Int))])
        (fun (s : Nat) hp' => hp = hp' ∧ s ≤ m2)
        0 (.cons rfl (.cons rfl (.cons rfl (.nil _)))) ⟨rfl, by simp⟩ ?_
      rintro i hp1 ⟨rfl, hi⟩
      refine X_seq ?_
      refine X_seq ?_
      refine X_reg ?_
      refine XR_a (op_move rfl) rfl rfl ?_
      refine XR_a (op_move rfl) rfl rfl ?_
      refine XR_a (op_len rfl rfl rfl) rfl rfl ?_
      refine XR_a (op_lss rfl rfl) rfl rfl ?_
      refine XR_nil ?_
      refine X_if rfl (fun h => ?_) (fun h => ?_)
      · have hlt : i < ps.length := by omega
        obtain ⟨b, o, rfl, hc⟩ := Rd.flat pairII 2 hr2 (fun _ => rfl) (by omega) (by omega)
        have hc0 := hc i hlt 0 _ rfl
        have hc1 := hc i hlt 1 _ rfl
        refine X_skip ?_
        refine X_seq ?_
        refine X_block ?_
        refine X_seq ?_
        refine X_reg ?_
        refine XR_a (op_move rfl) rfl rfl ?_
        refine XR_a (op_move rfl) rfl rfl ?_
        first | refine XR_a (op_index1 rfl rfl rfl (by omega)) rfl rfl ?_ | refine XR_a (op_index rfl rfl rfl (by omega)) rfl rfl ?_
        first | refine XR_a (op_field0 rfl rfl) rfl rfl ?_ | refine XR_a (op_fieldn rfl rfl) rfl rfl ?_
        refine XR_a (op_ld (cellH_ext st.low hc1) rfl rfl rfl) rfl rfl ?_
        refine XR_a (op_assign rfl) rfl rfl ?_
        refine XR_nil ?_
        refine X_seq ?_
        refine X_reg ?_
        refine XR_a (op_move rfl) rfl rfl ?_
        refine XR_a (op_move rfl) rfl rfl ?_
        first | refine XR_a (op_index1 rfl rfl rfl (by omega)) rfl rfl ?_ | refine XR_a (op_index rfl rfl rfl (by omega)) rfl rfl ?_
        first | refine XR_a (op_field0 rfl rfl) rfl rfl ?_ | refine XR_a (op_fieldn rfl rfl) rfl rfl ?_
        refine XR_a (op_ld (cellH_ext st.low hc0) rfl rfl rfl) rfl rfl ?_
        refine XR_a (op_eql rfl rfl) rfl rfl ?_
        refine XR_a (op_move rfl) rfl rfl ?_
        refine XR_if 38 rfl (fun h => ?_) (fun h => ?_)
        · refine XR_a (op_move rfl) rfl rfl ?_
          refine XR_a (op_move rfl) rfl rfl ?_
          refine XR_wa (opl_call (fnum_bad (st.cell 0 rfl rfl)) rfl (by kernel_rfl)) rfl rfl rfl ?_
          rintro _ _ ⟨rfl, rfl⟩
          refine XR_a (op_neq rfl rfl) rfl rfl ?_
          refine XR_as (.bool false) rfl ?_
          refine XR_a (op_pick_t rfl rfl) rfl rfl ?_
          refine XR_a (op_move rfl) rfl rfl ?_
          refine XR_a (op_move rfl) rfl rfl ?_
          refine XR_a (op_move rfl) rfl rfl ?_
          first | refine XR_a (op_index1 rfl rfl rfl (by omega)) rfl rfl ?_ | refine XR_a (op_index rfl rfl rfl (by omega)) rfl rfl ?_
          first | refine XR_a (op_field0 rfl rfl) rfl rfl ?_ | refine XR_a (op_fieldn rfl rfl) rfl rfl ?_
          refine XR_a (op_ld (cellH_ext st.low hc0) rfl rfl rfl) rfl rfl ?_
          refine XR_a (op_eql rfl rfl) rfl rfl ?_
          refine XR_a (op_move rfl) rfl rfl ?_
          refine XR_if 51 rfl (fun h => ?_) (fun h => ?_)
          · refine XR_a (op_move rfl) rfl rfl ?_
            refine XR_a (op_move rfl) rfl rfl ?_
            refine XR_wa (opl_call (fbytes_bad (st.cell 0 rfl rfl)) rfl (by kernel_rfl)) rfl rfl rfl ?_
            rintro _ _ ⟨rfl, rfl⟩
            refine XR_a (op_len rfl rfl rfl) rfl rfl ?_
            refine XR_a (op_neq rfl rfl) rfl rfl ?_
            refine XR_as (.bool false) rfl ?_
            refine XR_a (op_pick_t rfl rfl) rfl rfl ?_
            refine XR_a (op_pick_f rfl rfl) rfl rfl ?_
            refine XR_a (op_move rfl) rfl rfl ?_
            refine XR_a (op_move rfl) rfl rfl ?_
            refine XR_wa (opl_call (fok_spec (st.cell 0 rfl rfl)) rfl (by kernel_rfl)) rfl rfl rfl ?_
            rintro _ _ ⟨rfl, rfl⟩
            refine XR_as (.bool false) rfl ?_
            refine XR_a (op_pick_f rfl rfl) rfl rfl ?_
            refine XR_nil ?_
            refine X_else rfl ?_
            refine X_skip ?_
            refine X_blk ?_
            refine X_reg ?_
            refine XR_a (op_move rfl) rfl rfl ?_
            first | refine XR_a (op_addN (n := 1) rfl rfl (by simp only [inK]; omega)) rfl rfl ?_ | refine XR_a (op_addI rfl rfl (by simp only [inK]; omega)) rfl rfl ?_ | refine XR_a (op_add rfl rfl) rfl rfl ?_
            refine XR_a (op_assign rfl) rfl rfl ?_
            refine XR_nil ?_
            exact X_again (i + 1) (.cons rfl (.cons rfl (.cons rfl (.nil _)))) ⟨rfl, by omega⟩ (by omega)
          · refine XR_no rfl rfl ?_
            refine XR_no rfl rfl ?_
            refine XR_no rfl rfl ?_
            refine XR_no rfl rfl ?_
            refine XR_no rfl rfl ?_
            refine XR_a (op_pick_f rfl rfl) rfl rfl ?_
            refine XR_a (op_pick_f rfl rfl) rfl rfl ?_
            refine XR_a (op_move rfl) rfl rfl ?_
            refine XR_a (op_move rfl) rfl rfl ?_
            refine XR_wa (opl_call (fok_spec (st.cell 0 rfl rfl)) rfl (by kernel_rfl)) rfl rfl rfl ?_
            rintro _ _ ⟨rfl, rfl⟩
            refine XR_as (.bool false) rfl ?_
            refine XR_a (op_pick_f rfl rfl) rfl rfl ?_
            refine XR_nil ?_
            refine X_else rfl ?_
            refine X_skip ?_
            refine X_blk ?_
            refine X_reg ?_
            refine XR_a (op_move rfl) rfl rfl ?_
            first | refine XR_a (op_addN (n := 1) rfl rfl (by simp only [inK]; omega)) rfl rfl ?_ | refine XR_a (op_addI rfl rfl (by simp only [inK]; omega)) rfl rfl ?_ | refine XR_a (op_add rfl rfl) rfl rfl ?_
            refine XR_a (op_assign rfl) rfl rfl ?_
            refine XR_nil ?_
            exact X_again (i + 1) (.cons rfl (.cons rfl (.cons rfl (.nil _)))) ⟨rfl, by omega⟩ (by omega)
        · refine XR_no rfl rfl ?_
          refine XR_no rfl rfl ?_
          refine XR_no rfl rfl ?_
          refine XR_no rfl rfl ?_
          refine XR_a (op_pick_f rfl rfl) rfl rfl ?_
          refine XR_a (op_move rfl) rfl rfl ?_
          refine XR_a (op_move rfl) rfl rfl ?_
          refine XR_a (op_move rfl) rfl rfl ?_
          first | refine XR_a (op_index1 rfl rfl rfl (by omega)) rfl rfl ?_ | refine XR_a (op_index rfl rfl rfl (by omega)) rfl rfl ?_
          first | refine XR_a (op_field0 rfl rfl) rfl rfl ?_ | refine XR_a (op_fieldn rfl rfl) rfl rfl ?_
          refine XR_a (op_ld (cellH_ext st.low hc0) rfl rfl rfl) rfl rfl ?_
          refine XR_a (op_eql rfl rfl) rfl rfl ?_
          refine XR_a (op_move rfl) rfl rfl ?_
          refine XR_if 51 rfl (fun h => ?_) (fun h => ?_)
          · refine XR_a (op_move rfl) rfl rfl ?_
            refine XR_a (op_move rfl) rfl rfl ?_
            refine XR_wa (opl_call (fbytes_bad (st.cell 0 rfl rfl)) rfl (by kernel_rfl)) rfl rfl rfl ?_
            rintro _ _ ⟨rfl, rfl⟩
            refine XR_a (op_len rfl rfl rfl) rfl rfl ?_
            refine XR_a (op_neq rfl rfl) rfl rfl ?_
            refine XR_as (.bool false) rfl ?_
            refine XR_a (op_pick_t rfl rfl) rfl rfl ?_
            refine XR_a (op_pick_f rfl rfl) rfl rfl ?_
            refine XR_a (op_move rfl) rfl rfl ?_
            refine XR_a (op_move rfl) rfl rfl ?_
            refine XR_wa (opl_call (fok_spec (st.cell 0 rfl rfl)) rfl (by kernel_rfl)) rfl rfl rfl ?_
            rintro _ _ ⟨rfl, rfl⟩
            refine XR_as (.bool false) rfl ?_
            refine XR_a (op_pick_f rfl rfl) rfl rfl ?_
            refine XR_nil ?_
            refine X_else rfl ?_
            refine X_skip ?_
            refine X_blk ?_
            refine X_reg ?_
            refine XR_a (op_move rfl) rfl rfl ?_
            first | refine XR_a (op_addN (n := 1) rfl rfl (by simp only [inK]; omega)) rfl rfl ?_ | refine XR_a (op_addI rfl rfl (by simp only [inK]; omega)) rfl rfl ?_ | refine XR_a (op_add rfl rfl) rfl rfl ?_
            refine XR_a (op_assign rfl) rfl rfl ?_
            refine XR_nil ?_
            exact X_again (i + 1) (.cons rfl (.cons rfl (.cons rfl (.nil _)))) ⟨rfl, by omega⟩ (by omega)
          · refine XR_no rfl rfl ?_
            refine XR_no rfl rfl ?_
            refine XR_no rfl rfl ?_
            refine XR_no rfl rfl ?_
            refine XR_no rfl rfl ?_
            refine XR_a (op_pick_f rfl rfl) rfl rfl ?_
            refine XR_a (op_pick_f rfl rfl) rfl rfl ?_
            refine XR_a (op_move rfl) rfl rfl ?_
            refine XR_a (op_move rfl) rfl rfl ?_
            refine XR_wa (opl_call (fok_spec (st.cell 0 rfl rfl)) rfl (by kernel_rfl)) rfl rfl rfl ?_
            rintro _ _ ⟨rfl, rfl⟩
            refine XR_as (.bool false) rfl ?_
            refine XR_a (op_pick_f rfl rfl) rfl rfl ?_
            refine XR_nil ?_
            refine X_else rfl ?_
            refine X_skip ?_
            refine X_blk ?_
            refine X_reg ?_
            refine XR_a (op_move rfl) rfl rfl ?_
            first | refine XR_a (op_addN (n := 1) rfl rfl (by simp only [inK]; omega)) rfl rfl ?_ | refine XR_a (op_addI rfl rfl (by simp only [inK]; omega)) rfl rfl ?_ | refine XR_a (op_add rfl rfl) rfl rfl ?_
            refine XR_a (op_assign rfl) rfl rfl ?_
            refine XR_nil ?_
            exact X_again (i + 1) (.cons rfl (.cons rfl (.cons rfl (.nil _)))) ⟨rfl, by omega⟩ (by omega)
      · refine X_exit rfl ?_
        refine X_seq ?_
        refine X_reg ?_
        refine XR_a (op_move rfl) rfl rfl ?_
        refine XR_wa (opl_call (fok_spec (st.cell 0 rfl rfl)) rfl (by kernel_rfl)) rfl rfl rfl ?_
        rintro _ _ ⟨rfl, rfl⟩
        refine XR_a (op_not rfl) rfl rfl ?_
        refine XR_a (op_move rfl) rfl rfl ?_
        refine XR_wa (opl_call (lives02 _) rfl (by kernel_rfl)) rfl rfl rfl ?_
        rintro _ hp ⟨rfl, hx⟩
        refine XR_a (op_pick_t rfl rfl) rfl rfl ?_
        refine XR_a (op_assign rfl) rfl rfl ?_
        refine XR_nil ?_
        refine X_ret (.cons (.tmp rfl) .nil) ?_
        exact ⟨rfl, st.low.trans (hx.mono st.low.size)⟩

theorem getF_mid (b l : List UInt8) (z : List UInt8) (w n : Nat) (k : Int) (hw : wid k = w) (hl : l = b ++ leB w n ++ z) : getF l (b.length : Int) k = some (n % 256 ^ w) := by
  unfold getF
  subst hl
  rw [if_pos (by simp [leB_length, hw]; omega), hw]
  congr 1
  rw [Int.toNat_natCast, List.append_assoc, List.drop_left, List.take_append_of_le_length (by rw [leB_length]; omega), List.take_of_length_le (by rw [leB_length]; omega), leV_leB]
/-- Numbers one behind the other. -/
def leAll (w : Nat) (ns : List Nat) : List UInt8 := ns.flatMap (leB w)
theorem leAll_snoc (w : Nat) (ns : List Nat) (i : Nat) (h : i < ns.length) : leAll w (ns.take (i + 1)) = leAll w (ns.take i) ++ leB w ns[i] := by
  rw [List.take_succ_eq_append_getElem h]
  simp only [leAll, List.flatMap_append, List.flatMap_cons, List.flatMap_nil, List.append_nil]
theorem leAll_length (w : Nat) (ns : List Nat) : (leAll w ns).length = ns.length * w := by
  induction ns with
  | nil => simp [leAll]
  | cons n r ih =>
    simp only [leAll, List.flatMap_cons, List.length_append, leB_length, List.length_cons] at ih ⊢
    rw [ih, Nat.add_mul, Nat.one_mul]; omega
theorem leAll_split (w : Nat) (ns : List Nat) (i : Nat) (h : i < ns.length) : leAll w ns = leAll w (ns.take i) ++ leB w ns[i] ++ leAll w (ns.drop (i + 1)) := by
  conv => lhs; rw [← List.take_append_drop i ns, List.drop_eq_getElem_cons h]
  simp only [leAll, List.flatMap_append, List.flatMap_cons, List.append_assoc]
theorem pow256 (k : Nat) : 256 ^ k = 2 ^ (8 * k) := by rw [Nat.pow_mul]

theorem fieldBack_ret {m c m2 c2 : Nat} {k : Int} {A A2 : Option Addr} {l : List UInt8} {ns : List Nat} {h0 : Heap} (hr : Rd h0 A (l.map byteV)) (hl : l.length = m) (hr2 : Rd h0 A2 (ns.map fun n : Nat => Value.int .u32 (n : Int))) (hl2 : ns.length = m2) (hns : ∀ n ∈ ns, n < 4294967296) :
    Ret Try.prog 13 [.slice A m c, .slice A2 m2 c2, .int .i64 k] h0 fun v h' => v = .bool true ∧ Ext h0 h' := by
  refine ret_of_X Try.func13 rfl rfl fun w0 hw0 => ?_
  simp only [argE, Nat.zero_add, Nat.reduceAdd]
  refine X_seq ?_
  refine X_reg ?_
  refine XR_a (op_assign rfl) rfl rfl ?_
  refine XR_nil ?_
  refine X_seq ?_
  refine X_seq ?_
  refine X_reg ?_
  refine XR_a (op_move rfl) rfl rfl ?_
  refine XR_a (op_len rfl rfl rfl) rfl rfl ?_
  refine XR_a (op_gtr rfl rfl) rfl rfl ?_
  refine XR_a (op_move rfl) rfl rfl ?_
  refine XR_if 17 rfl (fun h => ?_) (fun h => ?_)
  · refine XR_no rfl rfl ?_
    refine XR_no rfl rfl ?_
    refine XR_no rfl rfl ?_
    refine XR_a (op_pick_t rfl rfl) rfl rfl ?_
    refine XR_a (op_move rfl) rfl rfl ?_
    refine XR_no rfl rfl ?_
    refine XR_no rfl rfl ?_
    refine XR_a (op_pick_t rfl rfl) rfl rfl ?_
    refine XR_a (op_move rfl) rfl rfl ?_
    refine XR_no rfl rfl ?_
    refine XR_no rfl rfl ?_
    refine XR_a (op_pick_t rfl rfl) rfl rfl ?_
    refine XR_nil ?_
    refine X_then rfl ?_
    refine X_seq ?_
    refine X_reg ?_
    refine XR_wa (opl_call (lives02 _) rfl (by kernel_rfl)) rfl rfl rfl ?_
    rintro _ hp ⟨rfl, hx⟩
    refine XR_a (op_assign rfl) rfl rfl ?_
    refine XR_nil ?_
    refine X_ret (.cons (.tmp rfl) .nil) ?_
    exact ⟨rfl, hx⟩
  · refine XR_a (op_move rfl) rfl rfl ?_
    refine XR_a (op_len rfl rfl rfl) rfl rfl ?_
    refine XR_a (op_gtr rfl rfl) rfl rfl ?_
    refine XR_a (op_pick_f rfl rfl) rfl rfl ?_
    refine XR_a (op_move rfl) rfl rfl ?_
    refine XR_if 22 rfl (fun h => ?_) (fun h => ?_)
    · refine XR_no rfl rfl ?_
      refine XR_no rfl rfl ?_
      refine XR_a (op_pick_t rfl rfl) rfl rfl ?_
      refine XR_a (op_move rfl) rfl rfl ?_
      refine XR_no rfl rfl ?_
      refine XR_no rfl rfl ?_
      refine XR_a (op_pick_t rfl rfl) rfl rfl ?_
      refine XR_nil ?_
      refine X_then rfl ?_
      refine X_seq ?_
      refine X_reg ?_
      refine XR_wa (opl_call (lives02 _) rfl (by kernel_rfl)) rfl rfl rfl ?_
      rintro _ hp ⟨rfl, hx⟩
      refine XR_a (op_assign rfl) rfl rfl ?_
      refine XR_nil ?_
      refine X_ret (.cons (.tmp rfl) .nil) ?_
      exact ⟨rfl, hx⟩
    · refine XR_a (op_move rfl) rfl rfl ?_
      refine XR_a (op_lss rfl rfl) rfl rfl ?_
      refine XR_a (op_pick_f rfl rfl) rfl rfl ?_
      refine XR_a (op_move rfl) rfl rfl ?_
      refine XR_if 26 rfl (fun h => ?_) (fun h => ?_)
      · refine XR_no rfl rfl ?_
        refine XR_no rfl rfl ?_
        refine XR_a (op_pick_t rfl rfl) rfl rfl ?_
        refine XR_nil ?_
        refine X_then rfl ?_
        refine X_seq ?_
        refine X_reg ?_
        refine XR_wa (opl_call (lives02 _) rfl (by kernel_rfl)) rfl rfl rfl ?_
        rintro _ hp ⟨rfl, hx⟩
        refine XR_a (op_assign rfl) rfl rfl ?_
        refine XR_nil ?_
        refine X_ret (.cons (.tmp rfl) .nil) ?_
        exact ⟨rfl, hx⟩
      · refine XR_a (op_move rfl) rfl rfl ?_
        refine XR_a (op_gtr rfl rfl) rfl rfl ?_
        refine XR_a (op_pick_f rfl rfl) rfl rfl ?_
        refine XR_nil ?_
        refine X_if rfl (fun h => ?_) (fun h => ?_)
        · refine X_seq ?_
          refine X_reg ?_
          refine XR_wa (opl_call (lives02 _) rfl (by kernel_rfl)) rfl rfl rfl ?_
          rintro _ hp ⟨rfl, hx⟩
          refine XR_a (op_assign rfl) rfl rfl ?_
          refine XR_nil ?_
          refine X_ret (.cons (.tmp rfl) .nil) ?_
          exact ⟨rfl, hx⟩
        · refine X_skip ?_
          refine X_seq ?_
          refine X_reg ?_
          refine XR_wa (opl_lit0 rfl) rfl rfl rfl ?_
          rintro v hp hnew
          have st := (St.start h0).new hnew
          refine XR_a (op_move rfl) rfl rfl ?_
          refine XR_wa (opl_append st 0 rfl (hr.ext st.low) (by simpa using hl) (one_bytes _) (by simp; omega) rfl rfl rfl rfl rfl rfl rfl) rfl rfl rfl fun v hp st => ?_
          simp only [List.set_cons_zero, List.set_cons_succ] at st
          rw [List.nil_append] at st
          have hw : ((wid k : Nat) : Int) = k := by unfold wid; omega
          have hlen4 : ∀ i, i ≤ m2 → i * wid k ≤ 400 := fun i hi => Nat.le_trans (Nat.mul_le_mul (show i ≤ 100 by omega) (wid_le k)) (by omega)
          refine XR_a (op_assign rfl) rfl rfl ?_
          refine XR_nil ?_
          refine X_seq ?_
          refine X_seq ?_
          refine X_reg ?_
          refine XR_a (op_assign rfl) rfl rfl ?_
          refine XR_nil ?_
          refine X_block ?_
          refine X_loop (fun s => m2 - s.1) (fun s => [(0, .slice A m c), (1, .slice A2 m2 c2), (2, .int .i64 k), (7, s.2), (8, .int .i64 (s.1 : Int))])
            (fun (s : Nat × Value) hp => St h0.size h0 hp [row 5 1 s.2 ((l ++ leAll (wid k) (ns.take s.1)).map byteV)] ∧ s.1 ≤ m2)
            (0, v) (.cons rfl (.cons rfl (.cons rfl (.cons rfl (.cons rfl (.nil _)))))) ⟨by simpa [leAll] using st, by simp⟩ ?_
          clear st hnew
          rintro ⟨i, v⟩ hp ⟨st, hi⟩
          simp only at st hi ⊢
          refine X_seq ?_
          refine X_seq ?_
          refine X_reg ?_
          refine XR_a (op_move rfl) rfl rfl ?_
          refine XR_a (op_move rfl) rfl rfl ?_
          refine XR_a (op_len rfl rfl rfl) rfl rfl ?_
          refine XR_a (op_lss rfl rfl) rfl rfl ?_
          refine XR_nil ?_
          refine X_if rfl (fun h => ?_) (fun h => ?_)
          · have hlt : i < ns.length := by omega
            obtain ⟨b, o, rfl, hc⟩ := hr2.at_ (by rw [List.length_map]; omega)
            have hcell := hc i (.int .u32 (ns[i] : Int)) (by simp [hlt])
            have hn := hns ns[i] (List.getElem_mem hlt)
            have hsn := leAll_snoc (wid k) ns i hlt
            have h4 := hlen4 i hi
            have hll := leAll_length (wid k) (ns.take i)
            rw [List.length_take, Nat.min_eq_left (by omega)] at hll
            refine X_skip ?_
            refine X_seq ?_
            refine X_block ?_
            refine X_reg ?_
            refine XR_a (op_move rfl) rfl rfl ?_
            refine XR_a (op_move rfl) rfl rfl ?_
            refine XR_a (op_move rfl) rfl rfl ?_
            first | refine XR_a (op_index1 rfl rfl rfl (by omega)) rfl rfl ?_ | refine XR_a (op_index rfl rfl rfl (by omega)) rfl rfl ?_
            refine XR_a (op_ld (cellH_ext st.low hcell) rfl rfl rfl) rfl rfl ?_
            refine XR_a (op_move rfl) rfl rfl ?_
            refine XR_wa (opl_call (fput_spec (n := ns[i]) st.here hn (by rw [List.length_append]; omega)) rfl (by kernel_rfl)) rfl rfl rfl ?_
            rintro v hp st2
            replace st := st.trans st2
            rw [List.append_assoc, ← hsn] at st
            refine XR_a (op_assign rfl) rfl rfl ?_
            refine XR_nil ?_
            refine X_blk ?_
            refine X_reg ?_
            refine XR_a (op_move rfl) rfl rfl ?_
            first | refine XR_a (op_addN (n := 1) rfl rfl (by simp only [inK]; omega)) rfl rfl ?_ | refine XR_a (op_addI rfl rfl (by simp only [inK]; omega)) rfl rfl ?_ | refine XR_a (op_add rfl rfl) rfl rfl ?_
            refine XR_a (op_assign rfl) rfl rfl ?_
            refine XR_nil ?_
            exact X_again (i + 1, v) (.cons rfl (.cons rfl (.cons rfl (.cons rfl (.cons rfl (.nil _)))))) ⟨st, by simp only; omega⟩ (by simp only; omega)
          · obtain rfl : i = m2 := by omega
            rw [List.take_of_length_le (by omega)] at st
            obtain ⟨A3, n3, c3, rfl, hlen3, _, _, hrd3⟩ := st.row 0 rfl
            have hn3 : (l ++ leAll (wid k) ns).length = n3 := by simpa using hlen3
            have hll := leAll_length (wid k) ns
            rw [List.length_append] at hn3
            rw [hl2] at hll
            have h4 := hlen4 i (Nat.le_refl _)
            refine X_exit rfl ?_
            refine X_seq ?_
            refine X_reg ?_
            refine XR_a (op_move rfl) rfl rfl ?_
            refine XR_wa (opl_call (fnew_spec) rfl (by kernel_rfl)) rfl rfl rfl ?_
            rintro _ hp ⟨pr, rfl, st2⟩
            replace st := st.join st2
            simp only [List.cons_append, List.nil_append] at st
            refine XR_a (op_assign rfl) rfl rfl ?_
            refine XR_nil ?_
            refine X_seq ?_
            refine X_reg ?_
            refine XR_a (op_move rfl) rfl rfl ?_
            refine XR_a (op_move rfl) rfl rfl ?_
            refine XR_a (op_len rfl rfl rfl) rfl rfl ?_
            refine XR_wa (opl_call (fseek_spec (n := m) st.here (by omega) (by omega)) rfl (by kernel_rfl)) rfl rfl rfl ?_
            rintro _ hp ⟨rfl, st2⟩
            replace st := st.trans st2
            clear st2
            refine XR_nil ?_
            refine X_seq ?_
            refine X_seq ?_
            refine X_reg ?_
            refine XR_a (op_assign rfl) rfl rfl ?_
            refine XR_nil ?_
            refine X_block ?_
            refine X_loop (fun s => i - s) (fun s => [(0, .slice A m c), (1, .slice A2 i c2), (2, .int .i64 k), (7, .slice A3 n3 c3), (9, .pointer (some ⟨pr, 0, none⟩)), (10, .int .i64 (s : Int))])
              (fun (s : Nat) hp => St h0.size h0 hp [fdG pr A3 n3 c3 (m + s * wid k) false, row 5 1 (.slice A3 n3 c3) ((l ++ leAll (wid k) ns).map byteV)] ∧ s ≤ i)
              0 (.cons rfl (.cons rfl (.cons rfl (.cons rfl (.cons rfl (.cons rfl (.nil _))))))) ⟨by simpa using st, by simp⟩ ?_
            clear st hrd3
            rintro j hp ⟨st, hj⟩
            refine X_seq ?_
            refine X_seq ?_
            refine X_reg ?_
            refine XR_a (op_move rfl) rfl rfl ?_
            refine XR_a (op_move rfl) rfl rfl ?_
            refine XR_a (op_len rfl rfl rfl) rfl rfl ?_
            refine XR_a (op_lss rfl rfl) rfl rfl ?_
            refine XR_nil ?_
            refine X_if rfl (fun h => ?_) (fun h => ?_)
            · have hlt : j < ns.length := by omega
              obtain ⟨b, o, rfl, hc⟩ := hr2.at_ (by rw [List.length_map]; omega)
              have hcell := hc j (.int .u32 (ns[j] : Int)) (by simp [hlt])
              have hn := hns ns[j] (List.getElem_mem hlt)
              have hlj := leAll_length (wid k) (ns.take j)
              rw [List.length_take, Nat.min_eq_left (by omega)] at hlj
              have hat := getF_mid (l ++ leAll (wid k) (ns.take j)) (l ++ leAll (wid k) ns) (leAll (wid k) (ns.drop (j + 1))) (wid k) ns[j] k rfl (by rw [List.append_assoc, List.append_assoc, ← List.append_assoc (leAll _ _), ← leAll_split])
              rw [List.length_append, hlj, hl, pow256] at hat
              have hjw : (j + 1) * wid k ≤ i * wid k := Nat.mul_le_mul_right _ (by omega)
              rw [Nat.add_mul, Nat.one_mul] at hjw
              refine X_skip ?_
              refine X_seq ?_
              refine X_block ?_
              refine X_seq ?_
              refine X_reg ?_
              refine XR_a (op_move rfl) rfl rfl ?_
              refine XR_a (op_move rfl) rfl rfl ?_
              first | refine XR_a (op_index1 rfl rfl rfl (by omega)) rfl rfl ?_ | refine XR_a (op_index rfl rfl rfl (by omega)) rfl rfl ?_
              refine XR_a (op_ld (cellH_ext st.low hcell) rfl rfl rfl) rfl rfl ?_
              refine XR_a (op_assign rfl) rfl rfl ?_
              refine XR_nil ?_
              refine X_seq ?_
              refine X_seq ?_
              refine X_reg ?_
              refine XR_a (op_move rfl) rfl rfl ?_
              refine XR_a (op_lss rfl rfl) rfl rfl ?_
              refine XR_nil ?_
              refine X_if rfl (fun h => ?_) (fun h => ?_)
              · have h24 : 2 ^ (8 * wid k) ≤ 16777216 := Nat.le_trans (Nat.pow_le_pow_right (by omega) (show 8 * wid k ≤ 24 by omega)) (by decide)
                have hpos : 1 ≤ 2 ^ (8 * wid k) := Nat.two_pow_pos _
                refine X_reg ?_
                refine XR_a (op_move rfl) rfl rfl ?_
                refine XR_a (op_move rfl) rfl rfl ?_
                refine XR_a (op_mulI rfl rfl (by simp only [inK]; omega)) rfl rfl ?_
                refine XR_as (.int .i64 ((8 * wid k : Nat) : Int)) (by congr 1; omega) ?_
                first | refine XR_a (op_convI rfl rfl (by simp only [inK]; omega)) rfl rfl ?_ | refine XR_a (op_convU rfl rfl rfl) rfl rfl ?_ | refine XR_a (op_conv rfl rfl) rfl rfl ?_
                refine XR_a (op_shlC (m := 1) (8 * wid k) rfl rfl (by simp only [IntKind.bits]; omega) (by simp only [inK]; omega)) rfl rfl ?_
                rw [Nat.one_mul]
                refine XR_a (op_remN rfl rfl (by omega)) rfl rfl ?_
                refine XR_a (op_assign rfl) rfl rfl ?_
                refine XR_nil ?_
                refine X_seq ?_
                refine X_reg ?_
                refine XR_a (op_move rfl) rfl rfl ?_
                refine XR_a (op_move rfl) rfl rfl ?_
                refine XR_a (op_len rfl rfl rfl) rfl rfl ?_
                refine XR_a (op_move rfl) rfl rfl ?_
                refine XR_a (op_move rfl) rfl rfl ?_
                refine XR_a (op_mulI rfl rfl (by rw [← hw, ← Int.natCast_mul]; simp only [inK]; omega)) rfl rfl ?_
                refine XR_as (.int .i64 ((j * wid k : Nat) : Int)) (by rw [Int.natCast_mul, hw]) ?_
                first | refine XR_a (op_addN rfl rfl (by simp only [inK]; omega)) rfl rfl ?_ | refine XR_a (op_addI rfl rfl (by simp only [inK]; omega)) rfl rfl ?_ | refine XR_a (op_add rfl rfl) rfl rfl ?_
                refine XR_a (op_move rfl) rfl rfl ?_
                refine XR_wa (opl_call (fget_spec (st.rdS 1 rfl).2 (by rw [List.length_append]; exact hn3) (by omega) (by simp only [inK]; omega)) rfl (by kernel_rfl)) rfl rfl rfl ?_
                rintro _ _ ⟨rfl, rfl⟩
                rw [hat]
                refine XR_a (op_move rfl) rfl rfl ?_
                refine XR_a (op_extract rfl rfl) rfl rfl ?_
                refine XR_a (op_extract rfl rfl) rfl rfl ?_
                refine XR_a (op_assign rfl) rfl rfl ?_
                refine XR_a (op_assign rfl) rfl rfl ?_
                refine XR_nil ?_
                refine X_seq ?_
                refine X_reg ?_
                refine XR_a (op_move rfl) rfl rfl ?_
                refine XR_a (op_not rfl) rfl rfl ?_
                refine XR_a (op_move rfl) rfl rfl ?_
                refine XR_a (op_move rfl) rfl rfl ?_
                refine XR_a (op_move rfl) rfl rfl ?_
                refine XR_a (op_neq rfl rfl) rfl rfl ?_
                refine XR_as (.bool false) (congrArg Value.bool (decide_eq_false (by simp))) ?_
                refine XR_a (op_pick_f rfl rfl) rfl rfl ?_
                refine XR_a (op_move rfl) rfl rfl ?_
                refine XR_a (op_move rfl) rfl rfl ?_
                refine XR_a (op_move rfl) rfl rfl ?_
                refine XR_wa (opl_call (fnum_spec st.here (st.rdS 1 rfl).2 (by rw [List.length_append]; exact hn3) (by omega) (by omega)) rfl (by kernel_rfl)) rfl rfl rfl ?_
                rintro _ hp ⟨rfl, st2⟩
                rw [hat] at st2
                rw [hat]
                replace st := st.trans st2
                refine XR_a (op_move rfl) rfl rfl ?_
                refine XR_a (op_neq rfl rfl) rfl rfl ?_
                refine XR_as (.bool false) (congrArg Value.bool (decide_eq_false (by simp))) ?_
                refine XR_a (op_pick_f rfl rfl) rfl rfl ?_
                refine XR_nil ?_
                refine X_else rfl ?_
                refine X_skip ?_
                refine X_blk ?_
                refine X_reg ?_
                refine XR_a (op_move rfl) rfl rfl ?_
                first | refine XR_a (op_addN (n := 1) rfl rfl (by simp only [inK]; omega)) rfl rfl ?_ | refine XR_a (op_addI rfl rfl (by simp only [inK]; omega)) rfl rfl ?_ | refine XR_a (op_add rfl rfl) rfl rfl ?_
                refine XR_a (op_assign rfl) rfl rfl ?_
                refine XR_nil ?_
                refine X_again (j + 1) (.cons rfl (.cons rfl (.cons rfl (.cons rfl (.cons rfl (.cons rfl (.nil _))))))) ⟨?_, by omega⟩ (by omega)
                rw [Nat.add_mul, Nat.one_mul, ← Nat.add_assoc]
                exact st
              · refine X_skip ?_
                refine X_seq ?_
                have h4k : wid k = 4 := by omega
                have hwant : ns[j] % 2 ^ (8 * wid k) = ns[j] := by
                  rw [h4k]; exact Nat.mod_eq_of_lt hn
                rw [hwant] at hat
                refine X_reg ?_
                refine XR_a (op_move rfl) rfl rfl ?_
                refine XR_a (op_move rfl) rfl rfl ?_
                refine XR_a (op_len rfl rfl rfl) rfl rfl ?_
                refine XR_a (op_move rfl) rfl rfl ?_
                refine XR_a (op_move rfl) rfl rfl ?_
                refine XR_a (op_mulI rfl rfl (by rw [← hw, ← Int.natCast_mul]; simp only [inK]; omega)) rfl rfl ?_
                refine XR_as (.int .i64 ((j * wid k : Nat) : Int)) (by rw [Int.natCast_mul, hw]) ?_
                first | refine XR_a (op_addN rfl rfl (by simp only [inK]; omega)) rfl rfl ?_ | refine XR_a (op_addI rfl rfl (by simp only [inK]; omega)) rfl rfl ?_ | refine XR_a (op_add rfl rfl) rfl rfl ?_
                refine XR_a (op_move rfl) rfl rfl ?_
                refine XR_wa (opl_call (fget_spec (st.rdS 1 rfl).2 (by rw [List.length_append]; exact hn3) (by omega) (by simp only [inK]; omega)) rfl (by kernel_rfl)) rfl rfl rfl ?_
                rintro _ _ ⟨rfl, rfl⟩
                rw [hat]
                refine XR_a (op_move rfl) rfl rfl ?_
                refine XR_a (op_extract rfl rfl) rfl rfl ?_
                refine XR_a (op_extract rfl rfl) rfl rfl ?_
                refine XR_a (op_assign rfl) rfl rfl ?_
                refine XR_a (op_assign rfl) rfl rfl ?_
                refine XR_nil ?_
                refine X_seq ?_
                refine X_reg ?_
                refine XR_a (op_move rfl) rfl rfl ?_
                refine XR_a (op_not rfl) rfl rfl ?_
                refine XR_a (op_move rfl) rfl rfl ?_
                refine XR_a (op_move rfl) rfl rfl ?_
                refine XR_a (op_move rfl) rfl rfl ?_
                refine XR_a (op_neq rfl rfl) rfl rfl ?_
                refine XR_as (.bool false) (congrArg Value.bool (decide_eq_false (by simp))) ?_
                refine XR_a (op_pick_f rfl rfl) rfl rfl ?_
                refine XR_a (op_move rfl) rfl rfl ?_
                refine XR_a (op_move rfl) rfl rfl ?_
                refine XR_a (op_move rfl) rfl rfl ?_
                refine XR_wa (opl_call (fnum_spec st.here (st.rdS 1 rfl).2 (by rw [List.length_append]; exact hn3) (by omega) (by omega)) rfl (by kernel_rfl)) rfl rfl rfl ?_
                rintro _ hp ⟨rfl, st2⟩
                rw [hat] at st2
                rw [hat]
                replace st := st.trans st2
                refine XR_a (op_move rfl) rfl rfl ?_
                refine XR_a (op_neq rfl rfl) rfl rfl ?_
                refine XR_as (.bool false) (congrArg Value.bool (decide_eq_false (by simp))) ?_
                refine XR_a (op_pick_f rfl rfl) rfl rfl ?_
                refine XR_nil ?_
                refine X_else rfl ?_
                refine X_skip ?_
                refine X_blk ?_
                refine X_reg ?_
                refine XR_a (op_move rfl) rfl rfl ?_
                first | refine XR_a (op_addN (n := 1) rfl rfl (by simp only [inK]; omega)) rfl rfl ?_ | refine XR_a (op_addI rfl rfl (by simp only [inK]; omega)) rfl rfl ?_ | refine XR_a (op_add rfl rfl) rfl rfl ?_
                refine XR_a (op_assign rfl) rfl rfl ?_
                refine XR_nil ?_
                refine X_again (j + 1) (.cons rfl (.cons rfl (.cons rfl (.cons rfl (.cons rfl (.cons rfl (.nil _))))))) ⟨?_, by omega⟩ (by omega)
                rw [Nat.add_mul, Nat.one_mul, ← Nat.add_assoc]
                exact st
            · obtain rfl : j = i := by omega
              refine X_exit rfl ?_
              refine X_seq ?_
              refine X_reg ?_
              refine XR_a (op_move rfl) rfl rfl ?_
              refine XR_wa (opl_call (fok_spec (st.cell 0 rfl rfl)) rfl (by kernel_rfl)) rfl rfl rfl ?_
              rintro _ _ ⟨rfl, rfl⟩
              refine XR_a (op_move rfl) rfl rfl ?_
              refine XR_a (op_move rfl) rfl rfl ?_
              refine XR_wa (opl_call (fleft_spec (st.cell 0 rfl rfl) (st.cell 0 rfl rfl) (by omega) (by omega)) rfl (by kernel_rfl)) rfl rfl rfl ?_
              rintro _ _ ⟨rfl, rfl⟩
              refine XR_a (op_eql rfl rfl) rfl rfl ?_
              refine XR_as (.bool true) (congrArg Value.bool (decide_eq_true (by omega))) ?_
              refine XR_a (op_pick_t rfl rfl) rfl rfl ?_
              refine XR_a (op_move rfl) rfl rfl ?_
              refine XR_wa (opl_call (lives02 _) rfl (by kernel_rfl)) rfl rfl rfl ?_
              rintro _ hp ⟨rfl, hx⟩
              refine XR_a (op_pick_t rfl rfl) rfl rfl ?_
              refine XR_a (op_assign rfl) rfl rfl ?_
              refine XR_nil ?_
              refine X_ret (.cons (.tmp rfl) .nil) ?_
              exact ⟨rfl, st.low.trans (hx.mono st.low.size)⟩
end Go.Bn
