/- The laws of package bindlelaw02 come to true. -/
import Derived.Test.YtocbgepeipfpaaaField
set_option linter.unusedVariables false
set_option linter.unusedSimpArgs false
set_option maxHeartbeats 4000000
namespace Go.Bn
open Go Proofs

theorem lives02 (h0 : Heap) : Ret Try.prog 16 [] h0 fun v h' => v = .bool true ∧ Ext h0 h' := by
  refine ret_of_X Try.func16 rfl rfl fun w0 hw0 => ?_
  simp only [argE, Nat.zero_add, Nat.reduceAdd]
  refine X_seq ?_
  refine X_reg ?_
  refine XR_a (op_assign rfl) rfl rfl ?_
  refine XR_nil ?_
  refine X_seq ?_
  refine X_reg ?_
  refine XR_wa (opl_call (fput_spec (F := []) ((St.start h0).nilrow 5 1) (n := 513) (l := []) (by omega) (by simp)) rfl (by kernel_rfl)) rfl rfl rfl ?_
  rintro v hp st
  obtain ⟨A, n, c, rfl, hlen, hnc, hcm, hrd⟩ := st.row 0 rfl
  refine XR_a (op_str hrd rfl (by simpa using hlen) rfl rfl rfl) rfl rfl ?_
  refine XR_a (op_eqlS (b := [1, 2]) rfl rfl) rfl rfl ?_
  refine XR_a (op_assign rfl) rfl rfl ?_
  refine XR_nil ?_
  refine X_ret (.cons (.tmp rfl) .nil) ?_
  have e : ([] ++ leB (wid 2) 513) = [1, 2] := by decide
  refine ⟨?_, st.low⟩
  rw [decide_eq_true e]; rfl

theorem fieldPuts_ret {n m c : Nat} {k : Int} {A : Option Addr} {l : List UInt8} {h0 : Heap} (hr : Rd h0 A (l.map byteV)) (hl : l.length = n) (hm : m < 4294967296) :
    Ret Try.prog 3 [.slice A n c, .int .u32 (m : Int), .int .i64 k] h0 fun v h' => v = .bool true ∧ Ext h0 h' := by
  refine ret_of_X Try.func3 rfl rfl fun w0 hw0 => ?_
  simp only [argE, Nat.zero_add, Nat.reduceAdd]
  refine X_seq ?_
  refine X_reg ?_
  refine XR_a (op_assign rfl) rfl rfl ?_
  refine XR_nil ?_
  refine X_seq ?_
  refine X_seq ?_
  refine X_reg ?_
  refine XR_a (op_move rfl) rfl rfl ?_
  refine XR_a (op_len rfl rfl rfl) rfl rfl ?_
  refine XR_a (op_gtr rfl rfl) rfl rfl ?_
  refine XR_nil ?_
  refine X_if rfl (fun h => ?_) (fun h => ?_)
  · refine X_seq ?_
    refine X_reg ?_
    refine XR_wa (opl_call (lives02 _) rfl (by kernel_rfl)) rfl rfl rfl ?_
    rintro _ hp ⟨rfl, hx⟩
    refine XR_a (op_assign rfl) rfl rfl ?_
    refine XR_nil ?_
    refine X_ret (.cons (.tmp rfl) .nil) ?_
    exact ⟨rfl, hx⟩
  · refine X_skip ?_
    refine X_seq ?_
    refine X_reg ?_
    refine XR_wa (opl_lit0 rfl) rfl rfl rfl ?_
    rintro v hp hnew
    have st := (St.start h0).new hnew
    refine XR_a (op_move rfl) rfl rfl ?_
    refine XR_wa (opl_append st 0 rfl (hr.ext st.low) (by simpa using hl) (one_bytes _) (by simp; omega) rfl rfl rfl rfl rfl rfl rfl) rfl rfl rfl fun v hp st => ?_
    simp only [List.set_cons_zero, List.set_cons_succ] at st
    refine XR_a (op_move rfl) rfl rfl ?_
    refine XR_a (op_move rfl) rfl rfl ?_
    refine XR_wa (opl_call (fput_spec (F := []) (l := l) st.here hm (by omega)) rfl (by kernel_rfl)) rfl rfl rfl ?_
    rintro v hp st2
    replace st := st.trans st2
    obtain ⟨A', n', c', rfl, hlen, hnc, hcm, hrd⟩ := st.row 0 rfl
    refine XR_a (op_assign rfl) rfl rfl ?_
    refine XR_nil ?_
    refine X_seq ?_
    refine X_draw (butAt [(6, .grow), (11, .grow)]) (by kernel_rfl) (by kernel_rfl) ?_
    refine XR_a (op_move rfl) rfl rfl ?_
    refine XR_a (op_str hrd rfl (by simpa using hlen) rfl rfl rfl) rfl rfl ?_
    refine XR_a (op_move rfl) rfl rfl ?_
    refine XR_a (op_str (hr.ext st.low) rfl hl rfl rfl rfl) rfl rfl ?_
    refine XR_a (op_move rfl) rfl rfl ?_
    refine XR_a (op_move rfl) rfl rfl ?_
    refine XR_ga (opl_call (fput_ref hm) rfl (by kernel_rfl)) rfl rfl rfl (fun _ _ h => h.low) ?_
    rintro v hp st3
    obtain ⟨A3, n3, c3, rfl, hlen3, hnc3, hcm3, hrd3⟩ := st3.row 0 rfl
    replace st := st.join st3
    refine XR_a (op_str hrd3 rfl (by simpa using hlen3) rfl rfl rfl) rfl rfl ?_
    refine XR_a (op_addS rfl rfl (by have := wid_le k; simp [leB_length]; omega)) rfl rfl ?_
    refine XR_a (op_eqlS rfl rfl) rfl rfl ?_
    refine XR_a (op_move rfl) rfl rfl ?_
    refine XR_if 28 rfl (fun h => ?_) (fun h => ?_)
    · refine XR_ga (opl_call (lives02 _) rfl (by kernel_rfl)) rfl rfl rfl (fun _ _ h => h.2) ?_
      rintro _ hp ⟨rfl, hx⟩
      refine XR_a (op_pick_t rfl rfl) rfl rfl ?_
      refine XR_a (op_assign rfl) rfl rfl ?_
      refine XR_nil ?_
      refine X_ret (.cons (.tmp rfl) .nil) ?_
      exact ⟨rfl, st.low.trans (hx.mono st.low.size)⟩
    · exact absurd rfl h

theorem fieldGets_ret {at_ k : Int} {n c : Nat} {A : Option Addr} {l : List UInt8} {h0 : Heap} (hr : Rd h0 A (l.map byteV)) (hl : l.length = n) (hn : n ≤ 140737488355328) (ha : inK .i64 at_) :
    Ret Try.prog 4 [.slice A n c, .int .i64 at_, .int .i64 k] h0 fun v h' => v = .bool true ∧ Ext h0 h' := by
  refine ret_of_X Try.func4 rfl rfl fun w0 hw0 => ?_
  simp only [argE, Nat.zero_add, Nat.reduceAdd]
  refine X_seq ?_
  refine X_reg ?_
  refine XR_a (op_assign rfl) rfl rfl ?_
  refine XR_nil ?_
  refine X_seq ?_
  refine X_reg ?_
  refine XR_a (op_move rfl) rfl rfl ?_
  refine XR_a (op_move rfl) rfl rfl ?_
  refine XR_a (op_move rfl) rfl rfl ?_
  refine XR_wa (opl_call (fget_spec hr hl hn ha) rfl (by kernel_rfl)) rfl rfl rfl ?_
  rintro _ _ ⟨rfl, rfl⟩
  refine XR_a (op_move rfl) rfl rfl ?_
  refine XR_a (op_extract rfl rfl) rfl rfl ?_
  refine XR_a (op_extract rfl rfl) rfl rfl ?_
  refine XR_a (op_assign rfl) rfl rfl ?_
  refine XR_a (op_assign rfl) rfl rfl ?_
  refine XR_nil ?_
  refine X_seq ?_
  refine X_reg ?_
  refine XR_a (op_move rfl) rfl rfl ?_
  refine XR_a (op_move rfl) rfl rfl ?_
  refine XR_a (op_move rfl) rfl rfl ?_
  refine XR_wa (opl_call (fget_ref hr hl hn ha) rfl (by kernel_rfl)) rfl rfl rfl ?_
  rintro _ _ ⟨rfl, rfl⟩
  refine XR_a (op_move rfl) rfl rfl ?_
  refine XR_a (op_extract rfl rfl) rfl rfl ?_
  refine XR_a (op_extract rfl rfl) rfl rfl ?_
  refine XR_a (op_assign rfl) rfl rfl ?_
  refine XR_a (op_assign rfl) rfl rfl ?_
  refine XR_nil ?_
  refine X_seq ?_
  refine X_reg ?_
  refine XR_a (op_move rfl) rfl rfl ?_
  refine XR_a (op_move rfl) rfl rfl ?_
  refine XR_a (op_eql rfl rfl) rfl rfl ?_
  refine XR_a (op_move rfl) rfl rfl ?_
  refine XR_if 28 rfl (fun h => ?_) (fun h => ?_)
  · refine XR_a (op_move rfl) rfl rfl ?_
    refine XR_a (op_move rfl) rfl rfl ?_
    refine XR_a (op_eqlB rfl rfl rfl) rfl rfl ?_
    refine XR_a (op_pick_t rfl rfl) rfl rfl ?_
    refine XR_a (op_move rfl) rfl rfl ?_
    refine XR_if 33 rfl (fun h => ?_) (fun h => ?_)
    · refine XR_wa (opl_call (lives02 _) rfl (by kernel_rfl)) rfl rfl rfl ?_
      rintro _ hp ⟨rfl, hx⟩
      refine XR_a (op_pick_t rfl rfl) rfl rfl ?_
      refine XR_a (op_assign rfl) rfl rfl ?_
      refine XR_nil ?_
      refine X_ret (.cons (.tmp rfl) .nil) ?_
      exact ⟨rfl, hx⟩
    · exact absurd rfl h
  · exact absurd rfl h
end Go.Bn
