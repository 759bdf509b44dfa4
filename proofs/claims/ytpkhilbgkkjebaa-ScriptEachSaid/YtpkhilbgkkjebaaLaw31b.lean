/- The walks of bindlelaw31: great and ScriptPuts. -/
import Derived.Test.YtpkhilbgkkjebaaLaw31
set_option linter.unusedVariables false
set_option linter.unusedSimpArgs false
set_option maxHeartbeats 4000000
set_option maxRecDepth 20000
namespace Go.Bn
open Go Proofs

def smallS (s : Stp) : Prop := s.name.length ≤ 300 ∧ s.keep.length ≤ 500 ∧ s.data.length ≤ 70000

theorem great31 {n c : Nat} {A : Option Addr} {xs : List (Stp × Value × Value)} {h0 : Heap} (hr : Rd h0 A (xs.flatMap stX)) (hl : xs.length = n) (hx : ∀ x ∈ xs, okX h0 x) :
    Ret Try.prog 14 [.slice A n c] h0 fun v h' => ∃ p : Prop, ∃ _ : Decidable p, v = .bool (decide p) ∧ h0 = h' ∧ (¬ p → xs.length ≤ 250 ∧ ∀ x ∈ xs, smallS x.1) := by
  refine ret_of_X Try.func14 rfl rfl fun w0 hw0 => ?_
  simp only [argE, Nat.zero_add, Nat.reduceAdd]
  refine X_seq ?_
  refine X_reg ?_
  refine XR_a (op_assign rfl) rfl rfl ?_
  refine XR_nil ?_
  refine X_seq ?_
  refine X_seq ?_
  refine X_reg ?_
  refine XR_a (op_assign rfl) rfl rfl ?_
  refine XR_nil ?_
  refine X_block ?_
  refine X_loop (fun i => n - i) (fun i => [(0, .slice A n c), (3, nV i)])
    (fun (i : Nat) hp => hp = h0 ∧ i ≤ n ∧ ∀ x ∈ xs.take i, smallS x.1) 0 (.cons rfl (.cons rfl (.nil _))) ⟨rfl, Nat.zero_le _, by simp⟩ ?_
  rintro i hp ⟨rfl, hi, hall⟩
  refine X_seq ?_
  refine X_seq ?_
  refine X_reg ?_
  refine XR_a (op_move rfl) rfl rfl ?_
  refine XR_a (op_move rfl) rfl rfl ?_
  refine XR_a (op_len rfl rfl rfl) rfl rfl ?_
  refine XR_a (op_lss rfl rfl) rfl rfl ?_
  refine XR_a (op_move rfl) rfl rfl ?_
  refine XR_if 8 rfl (fun h => ?_) (fun h => ?_)
  · refine XR_a (op_move rfl) rfl rfl ?_
    refine XR_a (op_lss rfl rfl) rfl rfl ?_
    refine XR_a (op_pick_t rfl rfl) rfl rfl ?_
    refine XR_nil ?_
    refine X_if rfl (fun h => ?_) (fun h => ?_)
    · have hi1 : i < xs.length := by omega
      obtain ⟨g1, o1, rfl, hc1⟩ := Rd.flat stX 7 hr (fun _ => rfl) (by omega) (by omega)
      obtain ⟨⟨Ad, nd, cd, e1, hl1, r1⟩, ⟨Ak, nk, ck, e2, hl2, r2⟩⟩ := hx xs[i] (List.getElem_mem hi1)
      have hcx := hc1 i hi1
      subst hl1 hl2
      simp only [stX, e1, e2] at hcx
      have htk : xs.take (i + 1) = xs.take i ++ [xs[i]] := List.take_succ_eq_append_getElem hi1
      have hz := str_size xs[i].1.name
      refine X_skip ?_
      refine X_seq ?_
      refine X_block ?_
      refine X_seq ?_
      refine X_reg ?_
      refine XR_a (op_move rfl) rfl rfl ?_
      refine XR_a (op_move rfl) rfl rfl ?_
      refine XR_a (op_index (i := i) rfl rfl rfl (by omega)) rfl rfl ?_
      first | refine XR_a (op_field0 rfl rfl) rfl rfl ?_ | refine XR_a (op_fieldn rfl rfl) rfl rfl ?_
      refine XR_a (op_ld (hcx 1 _ rfl) rfl rfl rfl) rfl rfl ?_
      refine XR_a (op_lenS rfl rfl rfl) rfl rfl ?_
      refine XR_a (op_gtr rfl rfl) rfl rfl ?_
      refine XR_a (op_move rfl) rfl rfl ?_
      refine XR_if 21 rfl (fun h => ?_) (fun h => ?_)
      · refine XR_no rfl rfl ?_
        refine XR_no rfl rfl ?_
        refine XR_no rfl rfl ?_
        refine XR_no rfl rfl ?_
        refine XR_no rfl rfl ?_
        refine XR_no rfl rfl ?_
        refine XR_no rfl rfl ?_
        refine XR_no rfl rfl ?_
        refine XR_no rfl rfl ?_
        refine XR_no rfl rfl ?_
        refine XR_no rfl rfl ?_
        refine XR_no rfl rfl ?_
        refine XR_no rfl rfl ?_
        refine XR_no rfl rfl ?_
        refine XR_no rfl rfl ?_
        refine XR_no rfl rfl ?_
        refine XR_a (op_pick_t rfl rfl) rfl rfl ?_
        refine XR_a (op_move rfl) rfl rfl ?_
        refine XR_no rfl rfl ?_
        refine XR_no rfl rfl ?_
        refine XR_no rfl rfl ?_
        refine XR_no rfl rfl ?_
        refine XR_no rfl rfl ?_
        refine XR_no rfl rfl ?_
        refine XR_no rfl rfl ?_
        refine XR_a (op_pick_t rfl rfl) rfl rfl ?_
        refine XR_a (op_move rfl) rfl rfl ?_
        refine XR_no rfl rfl ?_
        refine XR_no rfl rfl ?_
        refine XR_no rfl rfl ?_
        refine XR_no rfl rfl ?_
        refine XR_no rfl rfl ?_
        refine XR_no rfl rfl ?_
        refine XR_no rfl rfl ?_
        refine XR_no rfl rfl ?_
        refine XR_a (op_pick_t rfl rfl) rfl rfl ?_
        refine XR_nil ?_
        refine X_then rfl ?_
        refine X_seq ?_
        refine X_reg ?_
        refine XR_a (op_assign rfl) rfl rfl ?_
        refine XR_nil ?_
        refine X_ret (.cons (.tmp rfl) .nil) ?_
        exact ⟨True, inferInstance, rfl, rfl, fun h9 => absurd trivial h9⟩
      · refine XR_a (op_move rfl) rfl rfl ?_
        refine XR_a (op_move rfl) rfl rfl ?_
        refine XR_a (op_index (i := i) rfl rfl rfl (by omega)) rfl rfl ?_
        first | refine XR_a (op_field0 rfl rfl) rfl rfl ?_ | refine XR_a (op_fieldn rfl rfl) rfl rfl ?_
        refine XR_a (op_ld (hcx 2 _ rfl) rfl rfl rfl) rfl rfl ?_
        refine XR_a (op_len rfl rfl rfl) rfl rfl ?_
        refine XR_a (op_gtr rfl rfl) rfl rfl ?_
        refine XR_a (op_move rfl) rfl rfl ?_
        refine XR_if 29 rfl (fun h => ?_) (fun h => ?_)
        · refine XR_a (op_move rfl) rfl rfl ?_
          refine XR_a (op_move rfl) rfl rfl ?_
          refine XR_a (op_index (i := i) rfl rfl rfl (by omega)) rfl rfl ?_
          first | refine XR_a (op_field0 rfl rfl) rfl rfl ?_ | refine XR_a (op_fieldn rfl rfl) rfl rfl ?_
          refine XR_a (op_ld (hcx 2 _ rfl) rfl rfl rfl) rfl rfl ?_
          refine XR_a (op_len rfl rfl rfl) rfl rfl ?_
          refine XR_a (op_lss rfl rfl) rfl rfl ?_
          refine XR_a (op_pick_t rfl rfl) rfl rfl ?_
          refine XR_a (op_pick_f rfl rfl) rfl rfl ?_
          refine XR_a (op_move rfl) rfl rfl ?_
          refine XR_if 39 rfl (fun h => ?_) (fun h => ?_)
          · refine XR_no rfl rfl ?_
            refine XR_no rfl rfl ?_
            refine XR_no rfl rfl ?_
            refine XR_no rfl rfl ?_
            refine XR_no rfl rfl ?_
            refine XR_no rfl rfl ?_
            refine XR_no rfl rfl ?_
            refine XR_a (op_pick_t rfl rfl) rfl rfl ?_
            refine XR_a (op_move rfl) rfl rfl ?_
            refine XR_no rfl rfl ?_
            refine XR_no rfl rfl ?_
            refine XR_no rfl rfl ?_
            refine XR_no rfl rfl ?_
            refine XR_no rfl rfl ?_
            refine XR_no rfl rfl ?_
            refine XR_no rfl rfl ?_
            refine XR_no rfl rfl ?_
            refine XR_a (op_pick_t rfl rfl) rfl rfl ?_
            refine XR_nil ?_
            refine X_then rfl ?_
            refine X_seq ?_
            refine X_reg ?_
            refine XR_a (op_assign rfl) rfl rfl ?_
            refine XR_nil ?_
            refine X_ret (.cons (.tmp rfl) .nil) ?_
            exact ⟨True, inferInstance, rfl, rfl, fun h9 => absurd trivial h9⟩
          · refine XR_a (op_move rfl) rfl rfl ?_
            refine XR_a (op_move rfl) rfl rfl ?_
            refine XR_a (op_index (i := i) rfl rfl rfl (by omega)) rfl rfl ?_
            first | refine XR_a (op_field0 rfl rfl) rfl rfl ?_ | refine XR_a (op_fieldn rfl rfl) rfl rfl ?_
            refine XR_a (op_ld (hcx 2 _ rfl) rfl rfl rfl) rfl rfl ?_
            refine XR_a (op_len rfl rfl rfl) rfl rfl ?_
            refine XR_a (op_gtr rfl rfl) rfl rfl ?_
            refine XR_a (op_pick_f rfl rfl) rfl rfl ?_
            refine XR_a (op_move rfl) rfl rfl ?_
            refine XR_if 48 rfl (fun h => ?_) (fun h => ?_)
            · refine XR_no rfl rfl ?_
              refine XR_no rfl rfl ?_
              refine XR_no rfl rfl ?_
              refine XR_no rfl rfl ?_
              refine XR_no rfl rfl ?_
              refine XR_no rfl rfl ?_
              refine XR_no rfl rfl ?_
              refine XR_no rfl rfl ?_
              refine XR_a (op_pick_t rfl rfl) rfl rfl ?_
              refine XR_nil ?_
              refine X_then rfl ?_
              refine X_seq ?_
              refine X_reg ?_
              refine XR_a (op_assign rfl) rfl rfl ?_
              refine XR_nil ?_
              refine X_ret (.cons (.tmp rfl) .nil) ?_
              exact ⟨True, inferInstance, rfl, rfl, fun h9 => absurd trivial h9⟩
            · refine XR_a (op_move rfl) rfl rfl ?_
              refine XR_a (op_move rfl) rfl rfl ?_
              refine XR_a (op_index (i := i) rfl rfl rfl (by omega)) rfl rfl ?_
              first | refine XR_a (op_field0 rfl rfl) rfl rfl ?_ | refine XR_a (op_fieldn rfl rfl) rfl rfl ?_
              first | refine XR_a (op_field0 rfl rfl) rfl rfl ?_ | refine XR_a (op_fieldn rfl rfl) rfl rfl ?_
              refine XR_a (op_ld (hcx 4 _ rfl) rfl rfl rfl) rfl rfl ?_
              refine XR_a (op_len rfl rfl rfl) rfl rfl ?_
              refine XR_a (op_gtr rfl rfl) rfl rfl ?_
              refine XR_a (op_pick_f rfl rfl) rfl rfl ?_
              refine XR_nil ?_
              refine X_if rfl (fun h => ?_) (fun h => ?_)
              · refine X_seq ?_
                refine X_reg ?_
                refine XR_a (op_assign rfl) rfl rfl ?_
                refine XR_nil ?_
                refine X_ret (.cons (.tmp rfl) .nil) ?_
                exact ⟨True, inferInstance, rfl, rfl, fun h9 => absurd trivial h9⟩
              · refine X_skip ?_
                refine X_blk ?_
                refine X_reg ?_
                refine XR_a (op_move rfl) rfl rfl ?_
                first | refine XR_a (op_addN (n := 1) rfl rfl (by simp only [inK]; omega)) rfl rfl ?_ | refine XR_a (op_addI rfl rfl (by simp only [inK]; omega)) rfl rfl ?_ | refine XR_a (op_add rfl rfl) rfl rfl ?_
                refine XR_a (op_assign rfl) rfl rfl ?_
                refine XR_nil ?_
                refine X_again (i + 1) (.cons rfl (.cons rfl (.nil _))) ⟨rfl, by omega, ?_⟩ (by omega)
                intro x hx9
                rw [htk] at hx9
                rcases List.mem_append.1 hx9 with h8 | h8
                · exact hall x h8
                · rw [List.mem_singleton.1 h8]
                  exact ⟨by omega, by omega, by omega⟩
        · refine XR_no rfl rfl ?_
          refine XR_no rfl rfl ?_
          refine XR_no rfl rfl ?_
          refine XR_no rfl rfl ?_
          refine XR_no rfl rfl ?_
          refine XR_no rfl rfl ?_
          refine XR_no rfl rfl ?_
          refine XR_a (op_pick_f rfl rfl) rfl rfl ?_
          refine XR_a (op_pick_f rfl rfl) rfl rfl ?_
          refine XR_a (op_move rfl) rfl rfl ?_
          refine XR_a (op_move rfl) rfl rfl ?_
          refine XR_a (op_move rfl) rfl rfl ?_
          refine XR_a (op_index (i := i) rfl rfl rfl (by omega)) rfl rfl ?_
          first | refine XR_a (op_field0 rfl rfl) rfl rfl ?_ | refine XR_a (op_fieldn rfl rfl) rfl rfl ?_
          refine XR_a (op_ld (hcx 2 _ rfl) rfl rfl rfl) rfl rfl ?_
          refine XR_a (op_len rfl rfl rfl) rfl rfl ?_
          refine XR_a (op_gtr rfl rfl) rfl rfl ?_
          refine XR_a (op_pick_f rfl rfl) rfl rfl ?_
          refine XR_a (op_move rfl) rfl rfl ?_
          refine XR_if 48 rfl (fun h => ?_) (fun h => ?_)
          · refine XR_no rfl rfl ?_
            refine XR_no rfl rfl ?_
            refine XR_no rfl rfl ?_
            refine XR_no rfl rfl ?_
            refine XR_no rfl rfl ?_
            refine XR_no rfl rfl ?_
            refine XR_no rfl rfl ?_
            refine XR_no rfl rfl ?_
            refine XR_a (op_pick_t rfl rfl) rfl rfl ?_
            refine XR_nil ?_
            refine X_then rfl ?_
            refine X_seq ?_
            refine X_reg ?_
            refine XR_a (op_assign rfl) rfl rfl ?_
            refine XR_nil ?_
            refine X_ret (.cons (.tmp rfl) .nil) ?_
            exact ⟨True, inferInstance, rfl, rfl, fun h9 => absurd trivial h9⟩
          · refine XR_a (op_move rfl) rfl rfl ?_
            refine XR_a (op_move rfl) rfl rfl ?_
            refine XR_a (op_index (i := i) rfl rfl rfl (by omega)) rfl rfl ?_
            first | refine XR_a (op_field0 rfl rfl) rfl rfl ?_ | refine XR_a (op_fieldn rfl rfl) rfl rfl ?_
            first | refine XR_a (op_field0 rfl rfl) rfl rfl ?_ | refine XR_a (op_fieldn rfl rfl) rfl rfl ?_
            refine XR_a (op_ld (hcx 4 _ rfl) rfl rfl rfl) rfl rfl ?_
            refine XR_a (op_len rfl rfl rfl) rfl rfl ?_
            refine XR_a (op_gtr rfl rfl) rfl rfl ?_
            refine XR_a (op_pick_f rfl rfl) rfl rfl ?_
            refine XR_nil ?_
            refine X_if rfl (fun h => ?_) (fun h => ?_)
            · refine X_seq ?_
              refine X_reg ?_
              refine XR_a (op_assign rfl) rfl rfl ?_
              refine XR_nil ?_
              refine X_ret (.cons (.tmp rfl) .nil) ?_
              exact ⟨True, inferInstance, rfl, rfl, fun h9 => absurd trivial h9⟩
            · refine X_skip ?_
              refine X_blk ?_
              refine X_reg ?_
              refine XR_a (op_move rfl) rfl rfl ?_
              first | refine XR_a (op_addN (n := 1) rfl rfl (by simp only [inK]; omega)) rfl rfl ?_ | refine XR_a (op_addI rfl rfl (by simp only [inK]; omega)) rfl rfl ?_ | refine XR_a (op_add rfl rfl) rfl rfl ?_
              refine XR_a (op_assign rfl) rfl rfl ?_
              refine XR_nil ?_
              refine X_again (i + 1) (.cons rfl (.cons rfl (.nil _))) ⟨rfl, by omega, ?_⟩ (by omega)
              intro x hx9
              rw [htk] at hx9
              rcases List.mem_append.1 hx9 with h8 | h8
              · exact hall x h8
              · rw [List.mem_singleton.1 h8]
                exact ⟨by omega, by omega, by omega⟩
    · refine X_exit rfl ?_
      refine X_seq ?_
      refine X_reg ?_
      refine XR_a (op_move rfl) rfl rfl ?_
      refine XR_a (op_len rfl rfl rfl) rfl rfl ?_
      refine XR_a (op_gtr rfl rfl) rfl rfl ?_
      refine XR_a (op_assign rfl) rfl rfl ?_
      refine XR_nil ?_
      refine X_ret (.cons (.tmp rfl) .nil) ?_
      refine ⟨_, _, rfl, rfl, fun h9 => ⟨by omega, ?_⟩⟩
      rw [List.take_of_length_le (by omega)] at hall
      exact hall
  · refine XR_no rfl rfl ?_
    refine XR_no rfl rfl ?_
    refine XR_a (op_pick_f rfl rfl) rfl rfl ?_
    refine XR_nil ?_
    refine X_else rfl ?_
    refine X_exit rfl ?_
    refine X_seq ?_
    refine X_reg ?_
    refine XR_a (op_move rfl) rfl rfl ?_
    refine XR_a (op_len rfl rfl rfl) rfl rfl ?_
    refine XR_a (op_gtr rfl rfl) rfl rfl ?_
    refine XR_a (op_assign rfl) rfl rfl ?_
    refine XR_nil ?_
    refine X_ret (.cons (.tmp rfl) .nil) ?_
    refine ⟨_, _, rfl, rfl, fun h9 => ⟨by omega, ?_⟩⟩
    rw [List.take_of_length_le (by omega)] at hall
    exact hall

theorem scriptPuts_ret {n c co dk : Nat} {A Ao Ko : Option Addr} {xs : List (Stp × Value × Value)} {o : Stp} {h0 : Heap} (hr : Rd h0 A (xs.flatMap stX)) (hl : xs.length = n) (hx : ∀ x ∈ xs, okX h0 x) (ro : Rd h0 Ao (o.data.map byteV)) (rk : Rd h0 Ko (o.keep.map Value.bool)) :
    Ret Try.prog 5 [.slice A n c, .agg (stC o (.slice Ao o.data.length co) (.slice Ko o.keep.length dk)).toArray] h0 fun v h' => v = .bool true ∧ Ext h0 h' := by
  refine ret_of_X Try.func5 rfl rfl fun w0 hw0 => ?_
  simp only [argE, Nat.zero_add, Nat.reduceAdd]
  have st := St.start h0
  refine X_seq ?_
  refine X_reg ?_
  refine XR_wa (opl_bx (cs := stC o (.slice Ao o.data.length co) (.slice Ko o.keep.length dk)) rfl rfl) rfl rfl rfl ?_
  rintro _ hp ⟨p, rfl, hnew⟩
  replace st := st.new hnew
  refine XR_a (op_assign rfl) rfl rfl ?_
  refine XR_nil ?_
  refine X_seq ?_
  refine X_seq ?_
  refine X_reg ?_
  refine XR_a (op_move rfl) rfl rfl ?_
  refine XR_wa (opl_call (great31 (hr.ext st.low) hl (fun x h => (hx x h).ext st.low)) rfl (by kernel_rfl)) rfl rfl rfl ?_
  rintro _ _ ⟨q1, dq1, rfl, rfl, hq1⟩
  refine XR_a (op_move rfl) rfl rfl ?_
  refine XR_if 13 rfl (fun h => ?_) (fun h => ?_)
  · refine XR_no rfl rfl ?_
    refine XR_no rfl rfl ?_
    refine XR_no rfl rfl ?_
    refine XR_a (op_pick_t rfl rfl) rfl rfl ?_
    refine XR_nil ?_
    refine X_then rfl ?_
    refine X_seq ?_
    refine X_reg ?_
    refine XR_wa (opl_call (lives31 _) rfl (by kernel_rfl)) rfl rfl rfl ?_
    rintro _ hp ⟨rfl, hx⟩
    refine XR_a (op_assign rfl) rfl rfl ?_
    refine XR_nil ?_
    refine X_ret (.cons (.tmp rfl) .nil) ?_
    exact ⟨rfl, st.low.trans (hx.mono st.low.size)⟩
  · refine XR_a (op_ldA (vs := stC o (.slice Ao o.data.length co) (.slice Ko o.keep.length dk)) (st.cells 0 rfl) rfl rfl rfl rfl) rfl rfl ?_
    refine XR_wa (opl_varA (us := stC o (.slice Ao o.data.length co) (.slice Ko o.keep.length dk)) rfl rfl rfl rfl (by kernel_rfl)) rfl rfl rfl ?_
    rintro _ hp ⟨A9, rfl, hx9, hrd⟩
    replace st := st.ext hx9
    refine XR_wa (opl_call (great31 (xs := [(o, .slice Ao o.data.length co, .slice Ko o.keep.length dk)]) hrd rfl (by intro x hx; rw [List.mem_singleton.1 hx]; exact ⟨⟨_, _, _, rfl, rfl, ro.ext st.low⟩, _, _, _, rfl, rfl, rk.ext st.low⟩)) rfl (by kernel_rfl)) rfl rfl rfl ?_
    rintro _ _ ⟨q2, dq2, rfl, rfl, hq2⟩
    refine XR_a (op_pick_f rfl rfl) rfl rfl ?_
    refine XR_nil ?_
    refine X_if rfl (fun h => ?_) (fun h => ?_)
    · refine X_seq ?_
      refine X_reg ?_
      refine XR_wa (opl_call (lives31 _) rfl (by kernel_rfl)) rfl rfl rfl ?_
      rintro _ hp ⟨rfl, hx⟩
      refine XR_a (op_assign rfl) rfl rfl ?_
      refine XR_nil ?_
      refine X_ret (.cons (.tmp rfl) .nil) ?_
      exact ⟨rfl, st.low.trans (hx.mono st.low.size)⟩
    · refine X_skip ?_
      refine X_seq ?_
      refine X_seq ?_
      refine X_reg ?_
      refine XR_a (op_assign rfl) rfl rfl ?_
      refine XR_nil ?_
      refine X_block ?_
      obtain ⟨hn250, hsm⟩ := hq1 ‹¬ q1›
      refine X_loop (fun i => n - i) (fun i => [(0, .slice A n c), (3, .pointer (some ⟨p, 0, none⟩)), (5, nV i)])
        (fun (i : Nat) hp => i ≤ n ∧ St h0.size h0 hp [pt p 37 (stC o (.slice Ao o.data.length co) (.slice Ko o.keep.length dk))]) 0 (.cons rfl (.cons rfl (.cons rfl (.nil _)))) ⟨Nat.zero_le _, st⟩ ?_
      clear st
      rintro i hp ⟨hi, st⟩
      refine X_seq ?_
      refine X_seq ?_
      refine X_reg ?_
      refine XR_a (op_move rfl) rfl rfl ?_
      refine XR_a (op_move rfl) rfl rfl ?_
      refine XR_a (op_len rfl rfl rfl) rfl rfl ?_
      refine XR_a (op_lss rfl rfl) rfl rfl ?_
      refine XR_nil ?_
      refine X_if rfl (fun h => ?_) (fun h => ?_)
      · have hi1 : i < xs.length := by omega
        obtain ⟨g1, o1, rfl, hc1⟩ := Rd.flat stX 7 hr (fun _ => rfl) (by omega) (by omega)
        obtain ⟨⟨Ad, nd, cd, e1, hl1, r1⟩, ⟨Ak, nk, ck, e2, hl2, r2⟩⟩ := hx xs[i] (List.getElem_mem hi1)
        have hcx := fun {hp : Heap} (hE : Ext h0 hp) q u (hu : (stX xs[i])[q]? = some u) => cellH_ext (a := ⟨g1, o1 + i * 7 + q, none⟩) hE (hc1 i hi1 q u hu)
        have hks := (hsm xs[i] (List.getElem_mem hi1)).2.1
        subst hl1 hl2
        simp only [stX, e1, e2] at hcx
        have hkb : xs[i].1.keep.length ≤ 1048576 := by omega
        refine X_skip ?_
        refine X_seq ?_
        refine X_block ?_
        refine X_seq ?_
        refine X_reg ?_
        refine XR_a (op_assign rfl) rfl rfl ?_
        refine XR_nil ?_
        refine X_seq ?_
        refine X_seq ?_
        refine X_reg ?_
        refine XR_a (op_move rfl) rfl rfl ?_
        refine XR_a (op_move rfl) rfl rfl ?_
        refine XR_a (op_index (i := i) rfl rfl rfl (by omega)) rfl rfl ?_
        refine XR_a (op_ldA (vs := stC xs[i].1 (.slice Ad xs[i].1.data.length cd) (.slice Ak xs[i].1.keep.length ck)) (hcx st.low) rfl rfl rfl rfl) rfl rfl ?_
        refine XR_wa (opl_call (right31_ref _ _ _ _ _ _) rfl (by kernel_rfl)) rfl rfl rfl ?_
        rintro _ hp ⟨rfl, hE5⟩
        replace st := st.ext hE5
        refine XR_nil ?_
        refine X_if rfl (fun h => ?_) (fun h => ?_)
        · have hlen : (if xs[i].1.right then (oneB xs[i].1).length else 0) = (oneB xs[i].1).length := if_pos h
          refine X_reg ?_
          refine XR_a (op_move rfl) rfl rfl ?_
          refine XR_a (op_move rfl) rfl rfl ?_
          refine XR_a (op_index (i := i) rfl rfl rfl (by omega)) rfl rfl ?_
          refine XR_a (op_ldA (vs := stC xs[i].1 (.slice Ad xs[i].1.data.length cd) (.slice Ak xs[i].1.keep.length ck)) (hcx st.low) rfl rfl rfl rfl) rfl rfl ?_
          refine XR_wa (opl_call (one31_ref ‹xs[i].1.right› (r1.ext st.low) (r2.ext st.low)) rfl (by kernel_rfl)) rfl rfl rfl ?_
          rintro v9 hp st2
          obtain ⟨A9, n9, c9, rfl, hl9, _⟩ := st2.row 0 rfl
          rw [List.length_map, Nat.mul_one] at hl9
          replace st := st.ext st2.low
          refine XR_a (op_len rfl rfl rfl) rfl rfl ?_
          refine XR_a (op_assign rfl) rfl rfl ?_
          refine XR_nil ?_
          refine X_seq ?_
          refine X_draw_in (butAt [(4, .grow), (9, .grow), (16, .grow), (26, .grow), (32, .grow), (44, .grow)]) [0, 1, 2, 3, 5, 6, 7, 8, 4, 9, 10, 11, 12, 13, 14, 15, 17, 16, 18, 19, 20, 21, 22, 23, 24, 25, 27, 28, 29, 30, 31, 26, 32, 33, 34, 35, 36, 37, 38, 39, 40, 41, 42, 43, 44, 45, 46] (by kernel_rfl) (by kernel_rfl) rfl ?_
          refine XR_a (op_move rfl) rfl rfl ?_
          refine XR_a (op_move rfl) rfl rfl ?_
          refine XR_a (op_index (i := i) rfl rfl rfl (by omega)) rfl rfl ?_
          refine XR_a (op_ldA (vs := stC xs[i].1 (.slice Ad xs[i].1.data.length cd) (.slice Ak xs[i].1.keep.length ck)) (hcx st.low) rfl rfl rfl rfl) rfl rfl ?_
          refine XR_a (op_move rfl) rfl rfl ?_
          refine XR_a (op_move rfl) rfl rfl ?_
          refine XR_a (op_index (i := i) rfl rfl rfl (by omega)) rfl rfl ?_
          refine XR_a (op_ldA (vs := stC xs[i].1 (.slice Ad xs[i].1.data.length cd) (.slice Ak xs[i].1.keep.length ck)) (hcx st.low) rfl rfl rfl rfl) rfl rfl ?_
          refine XR_ga (opl_call (sright_spec _ _ _ _ _ _) rfl (by kernel_rfl)) rfl rfl rfl (fun _ _ h => h.2) ?_
          rintro _ hp ⟨rfl, hE5⟩
          replace st := st.ext hE5
          refine XR_ga (opl_call (right31_ref _ _ _ _ _ _) rfl (by kernel_rfl)) rfl rfl rfl (fun _ _ h => h.2) ?_
          rintro _ hp ⟨rfl, hE5⟩
          replace st := st.ext hE5
          refine XR_a (op_neqB rfl rfl rfl) rfl rfl ?_
          refine XR_as (.bool false) (by simp) ?_
          refine XR_a (op_move rfl) rfl rfl ?_
          refine XR_a (op_move rfl) rfl rfl ?_
          refine XR_a (op_move rfl) rfl rfl ?_
          refine XR_a (op_index (i := i) rfl rfl rfl (by omega)) rfl rfl ?_
          refine XR_a (op_ldA (vs := stC xs[i].1 (.slice Ad xs[i].1.data.length cd) (.slice Ak xs[i].1.keep.length ck)) (hcx st.low) rfl rfl rfl rfl) rfl rfl ?_
          refine XR_a (op_move rfl) rfl rfl ?_
          refine XR_ga (opl_call (slen_spec _ _ _ _ _ _) rfl (by kernel_rfl)) rfl rfl rfl (fun _ _ h => h.2) ?_
          rintro _ hp ⟨rfl, hE5⟩
          replace st := st.ext hE5
          refine XR_a (op_neq rfl rfl) rfl rfl ?_
          refine XR_as (.bool false) (congrArg Value.bool (decide_eq_false (by rw [hlen]; omega))) ?_
          refine XR_a (op_pick_f rfl rfl) rfl rfl ?_
          refine XR_a (op_move rfl) rfl rfl ?_
          refine XR_a (op_move rfl) rfl rfl ?_
          refine XR_a (op_move rfl) rfl rfl ?_
          refine XR_a (op_index (i := i) rfl rfl rfl (by omega)) rfl rfl ?_
          refine XR_a (op_ldA (vs := stC xs[i].1 (.slice Ad xs[i].1.data.length cd) (.slice Ak xs[i].1.keep.length ck)) (hcx st.low) rfl rfl rfl rfl) rfl rfl ?_
          refine XR_a (op_ldA (vs := stC o (.slice Ao o.data.length co) (.slice Ko o.keep.length dk)) (st.cells 0 rfl) rfl rfl rfl rfl) rfl rfl ?_
          refine XR_a (op_move rfl) rfl rfl ?_
          refine XR_a (op_move rfl) rfl rfl ?_
          refine XR_a (op_index (i := i) rfl rfl rfl (by omega)) rfl rfl ?_
          refine XR_a (op_ldA (vs := stC xs[i].1 (.slice Ad xs[i].1.data.length cd) (.slice Ak xs[i].1.keep.length ck)) (hcx st.low) rfl rfl rfl rfl) rfl rfl ?_
          refine XR_a (op_ldA (vs := stC o (.slice Ao o.data.length co) (.slice Ko o.keep.length dk)) (st.cells 0 rfl) rfl rfl rfl rfl) rfl rfl ?_
          refine XR_ga (opl_call (ssame_spec (r1.ext st.low) (r2.ext st.low) (ro.ext st.low) (rk.ext st.low) hkb) rfl (by kernel_rfl)) rfl rfl rfl (fun _ _ h => h.2) ?_
          rintro _ hp ⟨rfl, hE5⟩
          replace st := st.ext hE5
          refine XR_ga (opl_call (same31_ref (r1.ext st.low) (r2.ext st.low) (ro.ext st.low) (rk.ext st.low) hkb) rfl (by kernel_rfl)) rfl rfl rfl (fun _ _ h => h.2) ?_
          rintro _ hp ⟨rfl, hE5⟩
          replace st := st.ext hE5
          refine XR_a (op_neqB rfl rfl rfl) rfl rfl ?_
          refine XR_as (.bool false) (by simp) ?_
          refine XR_a (op_pick_f rfl rfl) rfl rfl ?_
          refine XR_a (op_move rfl) rfl rfl ?_
          refine XR_a (op_move rfl) rfl rfl ?_
          refine XR_a (op_move rfl) rfl rfl ?_
          refine XR_a (op_index (i := i) rfl rfl rfl (by omega)) rfl rfl ?_
          refine XR_a (op_ldA (vs := stC xs[i].1 (.slice Ad xs[i].1.data.length cd) (.slice Ak xs[i].1.keep.length ck)) (hcx st.low) rfl rfl rfl rfl) rfl rfl ?_
          refine XR_a (op_move rfl) rfl rfl ?_
          refine XR_a (op_move rfl) rfl rfl ?_
          refine XR_a (op_index (i := i) rfl rfl rfl (by omega)) rfl rfl ?_
          refine XR_a (op_ldA (vs := stC xs[i].1 (.slice Ad xs[i].1.data.length cd) (.slice Ak xs[i].1.keep.length ck)) (hcx st.low) rfl rfl rfl rfl) rfl rfl ?_
          refine XR_ga (opl_call (ssame_spec (r1.ext st.low) (r2.ext st.low) (r1.ext st.low) (r2.ext st.low) hkb) rfl (by kernel_rfl)) rfl rfl rfl (fun _ _ h => h.2) ?_
          rintro _ hp ⟨rfl, hE5⟩
          replace st := st.ext hE5
          first | refine XR_a (op_notd rfl) rfl rfl ?_ | refine XR_a (op_not rfl) rfl rfl ?_
          refine XR_as (.bool false) (by simp) ?_
          refine XR_a (op_pick_f rfl rfl) rfl rfl ?_
          refine XR_nil ?_
          refine X_else rfl ?_
          refine X_skip ?_
          refine X_blk ?_
          refine X_reg ?_
          refine XR_a (op_move rfl) rfl rfl ?_
          first | refine XR_a (op_addN (n := 1) rfl rfl (by simp only [inK]; omega)) rfl rfl ?_ | refine XR_a (op_addI rfl rfl (by simp only [inK]; omega)) rfl rfl ?_ | refine XR_a (op_add rfl rfl) rfl rfl ?_
          refine XR_a (op_assign rfl) rfl rfl ?_
          refine XR_nil ?_
          exact X_again (i + 1) (.cons rfl (.cons rfl (.cons rfl (.nil _)))) ⟨by omega, st⟩ (by omega)
        · have hlen : (if xs[i].1.right then (oneB xs[i].1).length else 0) = 0 := if_neg h
          refine X_skip ?_
          refine X_seq ?_
          refine X_draw_in (butAt [(4, .grow), (9, .grow), (16, .grow), (26, .grow), (32, .grow), (44, .grow)]) [0, 1, 2, 3, 5, 6, 7, 8, 4, 9, 10, 11, 12, 13, 14, 15, 17, 16, 18, 19, 20, 21, 22, 23, 24, 25, 27, 28, 29, 30, 31, 26, 32, 33, 34, 35, 36, 37, 38, 39, 40, 41, 42, 43, 44, 45, 46] (by kernel_rfl) (by kernel_rfl) rfl ?_
          refine XR_a (op_move rfl) rfl rfl ?_
          refine XR_a (op_move rfl) rfl rfl ?_
          refine XR_a (op_index (i := i) rfl rfl rfl (by omega)) rfl rfl ?_
          refine XR_a (op_ldA (vs := stC xs[i].1 (.slice Ad xs[i].1.data.length cd) (.slice Ak xs[i].1.keep.length ck)) (hcx st.low) rfl rfl rfl rfl) rfl rfl ?_
          refine XR_a (op_move rfl) rfl rfl ?_
          refine XR_a (op_move rfl) rfl rfl ?_
          refine XR_a (op_index (i := i) rfl rfl rfl (by omega)) rfl rfl ?_
          refine XR_a (op_ldA (vs := stC xs[i].1 (.slice Ad xs[i].1.data.length cd) (.slice Ak xs[i].1.keep.length ck)) (hcx st.low) rfl rfl rfl rfl) rfl rfl ?_
          refine XR_ga (opl_call (sright_spec _ _ _ _ _ _) rfl (by kernel_rfl)) rfl rfl rfl (fun _ _ h => h.2) ?_
          rintro _ hp ⟨rfl, hE5⟩
          replace st := st.ext hE5
          refine XR_ga (opl_call (right31_ref _ _ _ _ _ _) rfl (by kernel_rfl)) rfl rfl rfl (fun _ _ h => h.2) ?_
          rintro _ hp ⟨rfl, hE5⟩
          replace st := st.ext hE5
          refine XR_a (op_neqB rfl rfl rfl) rfl rfl ?_
          refine XR_as (.bool false) (by simp) ?_
          refine XR_a (op_move rfl) rfl rfl ?_
          refine XR_a (op_move rfl) rfl rfl ?_
          refine XR_a (op_move rfl) rfl rfl ?_
          refine XR_a (op_index (i := i) rfl rfl rfl (by omega)) rfl rfl ?_
          refine XR_a (op_ldA (vs := stC xs[i].1 (.slice Ad xs[i].1.data.length cd) (.slice Ak xs[i].1.keep.length ck)) (hcx st.low) rfl rfl rfl rfl) rfl rfl ?_
          refine XR_a (op_move rfl) rfl rfl ?_
          refine XR_ga (opl_call (slen_spec _ _ _ _ _ _) rfl (by kernel_rfl)) rfl rfl rfl (fun _ _ h => h.2) ?_
          rintro _ hp ⟨rfl, hE5⟩
          replace st := st.ext hE5
          refine XR_a (op_neq rfl rfl) rfl rfl ?_
          refine XR_as (.bool false) (congrArg Value.bool (decide_eq_false (by rw [hlen]; omega))) ?_
          refine XR_a (op_pick_f rfl rfl) rfl rfl ?_
          refine XR_a (op_move rfl) rfl rfl ?_
          refine XR_a (op_move rfl) rfl rfl ?_
          refine XR_a (op_move rfl) rfl rfl ?_
          refine XR_a (op_index (i := i) rfl rfl rfl (by omega)) rfl rfl ?_
          refine XR_a (op_ldA (vs := stC xs[i].1 (.slice Ad xs[i].1.data.length cd) (.slice Ak xs[i].1.keep.length ck)) (hcx st.low) rfl rfl rfl rfl) rfl rfl ?_
          refine XR_a (op_ldA (vs := stC o (.slice Ao o.data.length co) (.slice Ko o.keep.length dk)) (st.cells 0 rfl) rfl rfl rfl rfl) rfl rfl ?_
          refine XR_a (op_move rfl) rfl rfl ?_
          refine XR_a (op_move rfl) rfl rfl ?_
          refine XR_a (op_index (i := i) rfl rfl rfl (by omega)) rfl rfl ?_
          refine XR_a (op_ldA (vs := stC xs[i].1 (.slice Ad xs[i].1.data.length cd) (.slice Ak xs[i].1.keep.length ck)) (hcx st.low) rfl rfl rfl rfl) rfl rfl ?_
          refine XR_a (op_ldA (vs := stC o (.slice Ao o.data.length co) (.slice Ko o.keep.length dk)) (st.cells 0 rfl) rfl rfl rfl rfl) rfl rfl ?_
          refine XR_ga (opl_call (ssame_spec (r1.ext st.low) (r2.ext st.low) (ro.ext st.low) (rk.ext st.low) hkb) rfl (by kernel_rfl)) rfl rfl rfl (fun _ _ h => h.2) ?_
          rintro _ hp ⟨rfl, hE5⟩
          replace st := st.ext hE5
          refine XR_ga (opl_call (same31_ref (r1.ext st.low) (r2.ext st.low) (ro.ext st.low) (rk.ext st.low) hkb) rfl (by kernel_rfl)) rfl rfl rfl (fun _ _ h => h.2) ?_
          rintro _ hp ⟨rfl, hE5⟩
          replace st := st.ext hE5
          refine XR_a (op_neqB rfl rfl rfl) rfl rfl ?_
          refine XR_as (.bool false) (by simp) ?_
          refine XR_a (op_pick_f rfl rfl) rfl rfl ?_
          refine XR_a (op_move rfl) rfl rfl ?_
          refine XR_a (op_move rfl) rfl rfl ?_
          refine XR_a (op_move rfl) rfl rfl ?_
          refine XR_a (op_index (i := i) rfl rfl rfl (by omega)) rfl rfl ?_
          refine XR_a (op_ldA (vs := stC xs[i].1 (.slice Ad xs[i].1.data.length cd) (.slice Ak xs[i].1.keep.length ck)) (hcx st.low) rfl rfl rfl rfl) rfl rfl ?_
          refine XR_a (op_move rfl) rfl rfl ?_
          refine XR_a (op_move rfl) rfl rfl ?_
          refine XR_a (op_index (i := i) rfl rfl rfl (by omega)) rfl rfl ?_
          refine XR_a (op_ldA (vs := stC xs[i].1 (.slice Ad xs[i].1.data.length cd) (.slice Ak xs[i].1.keep.length ck)) (hcx st.low) rfl rfl rfl rfl) rfl rfl ?_
          refine XR_ga (opl_call (ssame_spec (r1.ext st.low) (r2.ext st.low) (r1.ext st.low) (r2.ext st.low) hkb) rfl (by kernel_rfl)) rfl rfl rfl (fun _ _ h => h.2) ?_
          rintro _ hp ⟨rfl, hE5⟩
          replace st := st.ext hE5
          first | refine XR_a (op_notd rfl) rfl rfl ?_ | refine XR_a (op_not rfl) rfl rfl ?_
          refine XR_as (.bool false) (by simp) ?_
          refine XR_a (op_pick_f rfl rfl) rfl rfl ?_
          refine XR_nil ?_
          refine X_else rfl ?_
          refine X_skip ?_
          refine X_blk ?_
          refine X_reg ?_
          refine XR_a (op_move rfl) rfl rfl ?_
          first | refine XR_a (op_addN (n := 1) rfl rfl (by simp only [inK]; omega)) rfl rfl ?_ | refine XR_a (op_addI rfl rfl (by simp only [inK]; omega)) rfl rfl ?_ | refine XR_a (op_add rfl rfl) rfl rfl ?_
          refine XR_a (op_assign rfl) rfl rfl ?_
          refine XR_nil ?_
          exact X_again (i + 1) (.cons rfl (.cons rfl (.cons rfl (.nil _)))) ⟨by omega, st⟩ (by omega)
      · refine X_exit rfl ?_
        refine X_seq ?_
        refine X_reg ?_
        refine XR_a (op_move rfl) rfl rfl ?_
        refine XR_wa (opl_call (sput_spec (hr.ext st.low) hl (fun x h => (hx x h).ext st.low)) rfl (by kernel_rfl)) rfl rfl rfl ?_
        rintro _ hp ⟨w1, rfl, st1⟩
        obtain ⟨A1, n1, c1, rfl, hl1, _, _, rd1⟩ := st1.row 0 rfl
        replace st := st.ext st1.low
        refine XR_a (op_move rfl) rfl rfl ?_
        refine XR_a (op_extract rfl rfl) rfl rfl ?_
        refine XR_a (op_extract rfl rfl) rfl rfl ?_
        refine XR_a (op_assign rfl) rfl rfl ?_
        refine XR_a (op_assign rfl) rfl rfl ?_
        refine XR_nil ?_
        refine X_seq ?_
        refine X_reg ?_
        refine XR_a (op_move rfl) rfl rfl ?_
        refine XR_wa (opl_call (sput_ref (hr.ext st.low) hl (fun x h => (hx x h).ext st.low)) rfl (by kernel_rfl)) rfl rfl rfl ?_
        rintro _ hp ⟨w2, rfl, st2⟩
        obtain ⟨A2, n2, c2, rfl, hl2, _, _, rd2⟩ := st2.row 0 rfl
        replace st := st.ext st2.low
        rw [List.length_map, Nat.mul_one] at hl1 hl2
        refine XR_a (op_move rfl) rfl rfl ?_
        refine XR_a (op_extract rfl rfl) rfl rfl ?_
        refine XR_a (op_extract rfl rfl) rfl rfl ?_
        refine XR_a (op_assign rfl) rfl rfl ?_
        refine XR_a (op_assign rfl) rfl rfl ?_
        refine XR_nil ?_
        refine X_seq ?_
        refine X_reg ?_
        refine XR_a (op_move rfl) rfl rfl ?_
        refine XR_a (op_str (rd1.ext st2.low) rfl hl1 rfl rfl rfl) rfl rfl ?_
        refine XR_a (op_move rfl) rfl rfl ?_
        refine XR_a (op_str rd2 rfl hl2 rfl rfl rfl) rfl rfl ?_
        refine XR_a (op_eqlS rfl rfl) rfl rfl ?_
        refine XR_as (.bool true) (congrArg Value.bool (decide_eq_true rfl)) ?_
        refine XR_a (op_move rfl) rfl rfl ?_
        refine XR_a (op_move rfl) rfl rfl ?_
        refine XR_a (op_move rfl) rfl rfl ?_
        refine XR_a (op_eql rfl rfl) rfl rfl ?_
        refine XR_as (.bool true) (congrArg Value.bool (decide_eq_true rfl)) ?_
        refine XR_a (op_pick_t rfl rfl) rfl rfl ?_
        refine XR_a (op_move rfl) rfl rfl ?_
        refine XR_wa (opl_call (lives31 _) rfl (by kernel_rfl)) rfl rfl rfl ?_
        rintro _ hp ⟨rfl, hx⟩
        refine XR_a (op_pick_t rfl rfl) rfl rfl ?_
        refine XR_a (op_assign rfl) rfl rfl ?_
        refine XR_nil ?_
        refine X_ret (.cons (.tmp rfl) .nil) ?_
        exact ⟨rfl, st.low.trans (hx.mono st.low.size)⟩
end Go.Bn
