/- The law RunsPuts. -/
import Derived.Test.YtdiglnhhmbhhjaaParts
import Derived.Test.YtdiglnhhmbhhjaaRefRuns2
set_option linter.unusedVariables false
set_option linter.unusedSimpArgs false
set_option maxHeartbeats 4000000
set_option maxRecDepth 20000
namespace Go.Bn
open Go Proofs

theorem putR_len {ls : List Nat} (hb : ∀ x ∈ ls, x ≤ 15) (h1 : 1 ≤ ls.length) (h : ls.length ≤ 320) : (putR ls).length ≤ 10000 := by
  have h2 := flat_bd (partBits (plens ls)) 22 (partBits_len (plens_ok hb h1)) (partsL ls 0)
  have h3 := partsL_len ls
  have h4 := putHead_len ls 19
  unfold putR
  rw [List.length_append]
  omega

theorem runsPuts_ret {n c : Nat} {A : Option Addr} {li : List Int} {h0 : Heap} (hr : Rd h0 A (li.map iV)) (hl : li.length = n) (hn : n ≤ 17592186044416) :
    Ret Try.prog 13 [.slice A n c] h0 fun v h' => v = .bool true ∧ Ext h0 h' := by
  refine ret_of_X Try.func13 rfl rfl fun w0 hw0 => ?_
  simp only [argE, Nat.zero_add, Nat.reduceAdd]
  refine X_seq ?_
  refine X_reg ?_
  refine XR_a (op_assign rfl) rfl rfl ?_
  refine XR_nil ?_
  refine X_seq ?_
  refine X_seq ?_
  refine X_reg ?_
  refine XR_a (op_move rfl) rfl rfl ?_
  refine XR_a (op_len rfl rfl rfl) rfl rfl ?_
  refine XR_a (op_gtr rfl rfl) rfl rfl ?_
  refine XR_nil ?_
  refine X_if rfl (fun h => ?_) (fun h => ?_)
  · refine X_seq ?_
    refine X_reg ?_
    refine XR_wa (opl_call (lives09 h0) rfl (by kernel_rfl)) rfl rfl rfl ?_
    rintro _ hp ⟨rfl, hx⟩
    refine XR_a (op_assign rfl) rfl rfl ?_
    refine XR_nil ?_
    refine X_ret (.cons (.tmp rfl) .nil) ?_
    exact ⟨rfl, hx⟩
  · refine X_skip ?_
    refine X_seq ?_
    refine X_reg ?_
    refine XR_wa (opl_new rfl) rfl rfl rfl ?_
    rintro _ hp ⟨q, rfl, hnew⟩
    have st := ((St.start h0).new hnew).wr0
    refine XR_nil ?_
    refine X_seq ?_
    refine X_reg ?_
    refine XR_a (op_move rfl) rfl rfl ?_
    refine XR_wa (opl_call (rput_spec (bs := []) (F := []) st.here (fun h' hl' => hr.ext (st.low.trans hl')) hl (by omega) (by simp)) rfl (by kernel_rfl)) rfl rfl rfl ?_
    rintro _ hp2 ⟨rfl, st2⟩
    replace st := st.trans st2
    rw [List.nil_append] at st
    refine XR_a (op_assign rfl) rfl rfl ?_
    refine XR_nil ?_
    refine X_seq ?_
    refine X_seq ?_
    refine X_reg ?_
    refine XR_a (op_move rfl) rfl rfl ?_
    refine XR_a (op_len rfl rfl rfl) rfl rfl ?_
    refine XR_a (op_lss rfl rfl) rfl rfl ?_
    refine XR_a (op_move rfl) rfl rfl ?_
    refine XR_if 15 rfl (fun h => ?_) (fun h => ?_)
    · have h15 := h
      refine XR_no rfl rfl ?_
      refine XR_no rfl rfl ?_
      refine XR_no rfl rfl ?_
      refine XR_a (op_pick_t rfl rfl) rfl rfl ?_
      refine XR_nil ?_
      refine X_then rfl ?_
      refine X_seq ?_
      have he : putE li = 5 := by unfold putE; rw [if_pos (by omega)]
      have hpl : putL li = [] := by unfold putL; rw [if_neg (by omega)]
      rw [hpl] at st
      rw [he]
      refine X_reg ?_
      refine XR_a (op_move rfl) rfl rfl ?_
      refine XR_a (op_eql rfl rfl) rfl rfl ?_
      refine XR_as (.bool true) (congrArg Value.bool (decide_eq_true rfl)) ?_
      refine XR_a (op_move rfl) rfl rfl ?_
      refine XR_wa (opl_call (wlen_spec st.here (by simp)) rfl (by kernel_rfl)) rfl rfl rfl ?_
      rintro _ _ ⟨rfl, rfl⟩
      refine XR_a (op_eql rfl rfl) rfl rfl ?_
      refine XR_as (.bool true) (congrArg Value.bool (decide_eq_true rfl)) ?_
      refine XR_a (op_pick_t rfl rfl) rfl rfl ?_
      refine XR_a (op_move rfl) rfl rfl ?_
      refine XR_wa (opl_call (lives09 _) rfl (by kernel_rfl)) rfl rfl rfl ?_
      rintro _ hp9 ⟨rfl, hx9⟩
      refine XR_a (op_pick_t rfl rfl) rfl rfl ?_
      refine XR_a (op_assign rfl) rfl rfl ?_
      refine XR_nil ?_
      refine X_ret (.cons (.tmp rfl) .nil) ?_
      exact ⟨rfl, Ext.trans st.low hx9⟩
    · have h15 := h
      refine XR_a (op_move rfl) rfl rfl ?_
      refine XR_a (op_len rfl rfl rfl) rfl rfl ?_
      refine XR_a (op_gtr rfl rfl) rfl rfl ?_
      refine XR_a (op_pick_f rfl rfl) rfl rfl ?_
      refine XR_nil ?_
      refine X_if rfl (fun h => ?_) (fun h => ?_)
      · refine X_seq ?_
        have he : putE li = 5 := by unfold putE; rw [if_pos (by omega)]
        have hpl : putL li = [] := by unfold putL; rw [if_neg (by omega)]
        rw [hpl] at st
        rw [he]
        refine X_reg ?_
        refine XR_a (op_move rfl) rfl rfl ?_
        refine XR_a (op_eql rfl rfl) rfl rfl ?_
        refine XR_as (.bool true) (congrArg Value.bool (decide_eq_true rfl)) ?_
        refine XR_a (op_move rfl) rfl rfl ?_
        refine XR_wa (opl_call (wlen_spec st.here (by simp)) rfl (by kernel_rfl)) rfl rfl rfl ?_
        rintro _ _ ⟨rfl, rfl⟩
        refine XR_a (op_eql rfl rfl) rfl rfl ?_
        refine XR_as (.bool true) (congrArg Value.bool (decide_eq_true rfl)) ?_
        refine XR_a (op_pick_t rfl rfl) rfl rfl ?_
        refine XR_a (op_move rfl) rfl rfl ?_
        refine XR_wa (opl_call (lives09 _) rfl (by kernel_rfl)) rfl rfl rfl ?_
        rintro _ hp9 ⟨rfl, hx9⟩
        refine XR_a (op_pick_t rfl rfl) rfl rfl ?_
        refine XR_a (op_assign rfl) rfl rfl ?_
        refine XR_nil ?_
        refine X_ret (.cons (.tmp rfl) .nil) ?_
        exact ⟨rfl, Ext.trans st.low hx9⟩
      · refine X_skip ?_
        refine X_seq ?_
        refine X_seq ?_
        refine X_reg ?_
        refine XR_a (op_move rfl) rfl rfl ?_
        by_cases hb : ∀ x ∈ li, 0 ≤ x ∧ x ≤ 15
        · refine XR_wa (opl_call (right_ref 15 (hr.ext st.low) hl (by omega)) rfl (by kernel_rfl)) rfl rfl rfl ?_
          rintro _ hp5 ⟨rfl, rfl⟩
          rw [decide_eq_true ⟨by omega, hb⟩]
          refine XR_a (op_not rfl) rfl rfl ?_
          refine XR_nil ?_
          refine X_else rfl ?_
          refine X_skip ?_
          refine X_seq ?_
          have he : putE li = 0 := by unfold putE; rw [if_neg (by omega), if_pos hb]
          have hpl : putL li = putR (li.map Int.toNat) := by unfold putL; rw [if_pos he]
          rw [hpl] at st
          rw [he]
          have hb2 : ∀ x ∈ li.map Int.toNat, x ≤ 15 := fun x hx => by obtain ⟨y, hy, rfl⟩ := List.mem_map.1 hx; have := hb y hy; omega
          have hrN : Rd h0 A ((li.map Int.toNat).map nV) := by rw [nV_iV, toNat_map fun x hx => (hb x hx).1]; exact hr
          have hlN : (li.map Int.toNat).length = n := by rw [List.length_map]; exact hl
          obtain ⟨ls, hls⟩ : ∃ ls, li.map Int.toNat = ls := ⟨_, rfl⟩
          rw [hls] at st hb2 hrN hlN
          have hpr := putR_len hb2 (by omega) (by omega)
          refine X_reg ?_
          refine XR_a (op_move rfl) rfl rfl ?_
          refine XR_wa (opl_call (put09_ref (hrN.ext st.low) hlN (by omega) (by omega) hb2) rfl (by kernel_rfl)) rfl rfl rfl ?_
          rintro v5 hp5 st5
          obtain ⟨A5, n5, c5, rfl, hl5, _, _, hrd5⟩ := st5.row 0 rfl
          rw [List.length_map, b01_length, Nat.mul_one] at hl5
          obtain rfl : n5 = (putR ls).length := by omega
          replace st := st.join st5
          simp only [List.cons_append, List.nil_append] at st
          replace st := st.perm (List.Perm.swap _ _ _)
          refine XR_a (op_assign rfl) rfl rfl ?_
          refine XR_nil ?_
          refine X_seq ?_
          refine X_draw_in (butAt [(4, .grow), (8, .grow), (14, .grow), (17, .grow), (22, .grow)]) [0, 1, 2, 3, 4, 5, 6, 7, 9, 10, 8, 11, 12, 13, 16, 14, 15, 17, 18, 19, 20, 21, 22, 23, 24] (by kernel_rfl) (by kernel_rfl) rfl ?_
          refine XR_a (op_move rfl) rfl rfl ?_
          refine XR_a (op_eql rfl rfl) rfl rfl ?_
          refine XR_as (.bool true) (congrArg Value.bool (decide_eq_true rfl)) ?_
          refine XR_a (op_move rfl) rfl rfl ?_
          refine XR_a (op_move rfl) rfl rfl ?_
          refine XR_ga (opl_call (rput_nil) rfl (by kernel_rfl)) rfl rfl rfl (fun _ _ h => h.2) ?_
          rintro _ hp6 ⟨rfl, hx6⟩
          replace st := st.ext hx6
          rw [if_neg (by omega)]
          refine XR_a (op_eql rfl rfl) rfl rfl ?_
          refine XR_as (.bool true) (congrArg Value.bool (decide_eq_true rfl)) ?_
          refine XR_a (op_pick_t rfl rfl) rfl rfl ?_
          refine XR_a (op_move rfl) rfl rfl ?_
          refine XR_a (op_move rfl) rfl rfl ?_
          refine XR_a (op_len rfl rfl rfl) rfl rfl ?_
          refine XR_ga (opl_call (wlen_spec st.here (by omega)) rfl (by kernel_rfl)) rfl rfl rfl (fun _ _ h => h.2 ▸ Low.refl _ _) ?_
          rintro _ _ ⟨rfl, rfl⟩
          refine XR_a (op_eql rfl rfl) rfl rfl ?_
          refine XR_as (.bool true) (congrArg Value.bool (decide_eq_true rfl)) ?_
          refine XR_a (op_pick_t rfl rfl) rfl rfl ?_
          refine XR_a (op_move rfl) rfl rfl ?_
          refine XR_a (op_move rfl) rfl rfl ?_
          refine XR_ga (opl_call (wbytes_spec st.here (by omega)) rfl (by kernel_rfl)) rfl rfl rfl (fun _ _ h => h.low) ?_
          rintro v3 hp st3
          obtain ⟨A3, n3, c3, rfl, hlen3, _, _, hrd3⟩ := st3.row 0 rfl
          replace st := st.ext st3.low
          refine XR_a (op_str hrd3 rfl (by simpa using hlen3) rfl rfl rfl) rfl rfl ?_
          refine XR_ga (opl_call (pack_ref (st.rdS 1 rfl).2 rfl (by omega)) rfl (by kernel_rfl)) rfl rfl rfl (fun _ _ h => h.low) ?_
          rintro v4 hp st4
          obtain ⟨A4, n4, c4, rfl, hlen4, _, _, hrd4⟩ := st4.row 0 rfl
          replace st := st.ext st4.low
          refine XR_a (op_str hrd4 rfl (by simpa using hlen4) rfl rfl rfl) rfl rfl ?_
          refine XR_a (op_eqlS rfl rfl) rfl rfl ?_
          refine XR_as (.bool true) (congrArg Value.bool (decide_eq_true rfl)) ?_
          refine XR_a (op_pick_t rfl rfl) rfl rfl ?_
          refine XR_a (op_move rfl) rfl rfl ?_
          refine XR_ga (opl_call (lives09 _) rfl (by kernel_rfl)) rfl rfl rfl (fun _ _ h => h.2) ?_
          rintro _ hp ⟨rfl, hx⟩
          refine XR_a (op_pick_t rfl rfl) rfl rfl ?_
          refine XR_a (op_assign rfl) rfl rfl ?_
          refine XR_nil ?_
          refine X_ret (.cons (.tmp rfl) .nil) ?_
          exact ⟨rfl, Ext.trans st.low hx⟩
        · refine XR_wa (opl_call (right_ref 15 (hr.ext st.low) hl (by omega)) rfl (by kernel_rfl)) rfl rfl rfl ?_
          rintro _ hp5 ⟨rfl, rfl⟩
          rw [decide_eq_false (fun h => hb h.2)]
          refine XR_a (op_not rfl) rfl rfl ?_
          refine XR_nil ?_
          refine X_then rfl ?_
          refine X_seq ?_
          refine X_reg ?_
          refine XR_a (op_move rfl) rfl rfl ?_
          have he : putE li = 1 := by unfold putE; rw [if_neg (by omega), if_neg hb]
          have hpl : putL li = [] := by unfold putL; rw [if_neg (by omega)]
          rw [hpl] at st
          rw [he]
          refine XR_a (op_eql rfl rfl) rfl rfl ?_
          refine XR_as (.bool true) (congrArg Value.bool (decide_eq_true rfl)) ?_
          refine XR_a (op_move rfl) rfl rfl ?_
          refine XR_wa (opl_call (wlen_spec st.here (by simp)) rfl (by kernel_rfl)) rfl rfl rfl ?_
          rintro _ _ ⟨rfl, rfl⟩
          refine XR_a (op_eql rfl rfl) rfl rfl ?_
          refine XR_as (.bool true) (congrArg Value.bool (decide_eq_true rfl)) ?_
          refine XR_a (op_pick_t rfl rfl) rfl rfl ?_
          refine XR_a (op_move rfl) rfl rfl ?_
          refine XR_wa (opl_call (lives09 _) rfl (by kernel_rfl)) rfl rfl rfl ?_
          rintro _ hp9 ⟨rfl, hx9⟩
          refine XR_a (op_pick_t rfl rfl) rfl rfl ?_
          refine XR_a (op_assign rfl) rfl rfl ?_
          refine XR_nil ?_
          refine X_ret (.cons (.tmp rfl) .nil) ?_
          exact ⟨rfl, Ext.trans st.low hx9⟩
end Go.Bn
