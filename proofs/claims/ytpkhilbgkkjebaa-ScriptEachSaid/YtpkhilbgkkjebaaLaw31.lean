/- The walks of bindlelaw31: lives and ScriptTakes. -/
import Derived.Test.YtpkhilbgkkjebaaScript12
set_option linter.unusedVariables false
set_option linter.unusedSimpArgs false
set_option maxHeartbeats 4000000
set_option maxRecDepth 20000
namespace Go.Bn
open Go Proofs

def oL : Stp := ⟨3, [97], [7], -1, [], 0, 0⟩
theorem oL_right : oL.right := ⟨⟨by decide, by decide⟩, ⟨by decide, by decide⟩, ⟨by decide, by decide⟩, by decide, by decide, by decide⟩
theorem oL_put : putS31 [oL] = ([1, 0, 3, 1, 97, 0, 0, 1, 0, 0, 0, 7, 0, 0, 0], 0) := by
  rw [putS31_ok (by decide) (by intro s hs; rw [List.mem_singleton.1 hs]; exact oL_right)]
  kernel_rfl
theorem oL_take : takeS31 [1, 0, 3, 1, 97, 0, 0, 1, 0, 0, 0, 7, 0, 0, 0] = ([oL], 0) := by kernel_rfl

theorem lives31 (h0 : Heap) : Ret Try.prog 7 [] h0 fun v h' => v = .bool true ∧ Ext h0 h' := by
  have e0 : putS31 [] = ([0, 0], 0) := by rw [putS31_ok (by decide) (by simp)]; rfl
  refine ret_of_X Try.func7 rfl rfl fun w0 hw0 => ?_
  simp only [argE, Nat.zero_add, Nat.reduceAdd]
  have st := St.start h0
  refine X_seq ?_
  refine X_reg ?_
  refine XR_a (op_assign rfl) rfl rfl ?_
  refine XR_nil ?_
  refine X_seq ?_
  refine X_reg ?_
  refine XR_wa (opl_call (sput_spec (xs := []) (.inl rfl) rfl (by simp)) rfl (by kernel_rfl)) rfl rfl rfl ?_
  rintro _ hp ⟨w1, rfl, st1⟩
  rw [List.map_nil, e0] at st1 ⊢
  replace st := st.join st1
  obtain ⟨A1, n1, c1, rfl, hl1, _⟩ := st.row 0 rfl
  have hl1 : n1 = 2 := by simpa using hl1.symm
  subst hl1
  refine XR_a (op_move rfl) rfl rfl ?_
  refine XR_a (op_extract rfl rfl) rfl rfl ?_
  refine XR_a (op_extract rfl rfl) rfl rfl ?_
  refine XR_a (op_assign rfl) rfl rfl ?_
  refine XR_a (op_assign rfl) rfl rfl ?_
  refine XR_nil ?_
  refine X_seq ?_
  refine X_reg ?_
  refine XR_wa (opl_lits [.int .u8 7] rfl rfl rfl rfl (by kernel_rfl) rfl) rfl rfl rfl ?_
  rintro v2 hp hnew
  replace st := st.new hnew
  obtain ⟨A2, n2, c2, rfl, hl2, _⟩ := st.row 0 rfl
  have hl2 : n2 = 1 := by simpa using hl2.symm
  subst hl2
  refine XR_a (op_build (ps := [(0, .int .i64 3), (1, .string (str [97])), (2, .slice A2 1 c2), (3, .int .i64 (-1))]) (cs := (stC oL (.slice A2 1 c2) (.slice none 0 0)).toArray) rfl rfl) rfl rfl ?_
  refine XR_wa (opl_new rfl) rfl rfl rfl ?_
  rintro _ hp ⟨p3, rfl, hnew⟩
  replace st := st.new hnew
  refine XR_wn (opl_store_whole (us := stC oL (.slice A2 1 c2) (.slice none 0 0)) st 0 rfl rfl rfl rfl rfl (one_stC _ rfl rfl) rfl) rfl rfl fun _ hp st => ?_
  simp only [List.set_cons_zero] at st
  refine XR_nil ?_
  refine X_seq ?_
  refine X_reg ?_
  refine XR_a (op_ldA (vs := stC oL (.slice A2 1 c2) (.slice none 0 0)) (st.cells 0 rfl) rfl rfl rfl rfl) rfl rfl ?_
  refine XR_wa (opl_varA (us := stC oL (.slice A2 1 c2) (.slice none 0 0)) rfl rfl rfl rfl (by kernel_rfl)) rfl rfl rfl ?_
  rintro _ hp ⟨A9, rfl, hx9, hrd⟩
  replace st := st.ext hx9
  refine XR_wa (opl_call (sput_spec (xs := [(oL, .slice A2 1 c2, .slice none 0 0)]) hrd rfl (by intro x hx; rw [List.mem_singleton.1 hx]; exact ⟨⟨A2, 1, c2, rfl, rfl, (st.rdS 1 rfl).2⟩, none, 0, 0, rfl, rfl, .inl rfl⟩)) rfl (by kernel_rfl)) rfl rfl rfl ?_
  rintro _ hp ⟨w5, rfl, st1⟩
  rw [List.map_cons, List.map_nil, oL_put] at st1 ⊢
  replace st := st.join st1
  simp only [List.cons_append, List.nil_append] at st
  obtain ⟨A5, n5, c5, rfl, hl5, hc5, _⟩ := st.row 0 rfl
  refine XR_a (op_move rfl) rfl rfl ?_
  refine XR_a (op_extract rfl rfl) rfl rfl ?_
  refine XR_a (op_extract rfl rfl) rfl rfl ?_
  refine XR_a (op_assign rfl) rfl rfl ?_
  refine XR_a (op_assign rfl) rfl rfl ?_
  refine XR_nil ?_
  refine X_seq ?_
  refine X_reg ?_
  refine XR_a (op_move rfl) rfl rfl ?_
  refine XR_wa (opl_call (stake_spec (st.rdS 0 rfl).2 (by simpa using hl5) (by simp at hl5; omega) hc5) rfl (by kernel_rfl)) rfl rfl rfl ?_
  rintro _ hp ⟨w6, xs, L, rfl, hxs, hsub, st1⟩
  rw [oL_take] at hxs ⊢
  have hx1 : xs.length = 1 := by have := congrArg List.length hxs; simpa using this
  obtain ⟨x, rfl⟩ : ∃ x, xs = [x] := by
    match xs, hx1 with
    | [x], _ => exact ⟨x, rfl⟩
  obtain ⟨s, dv, kv⟩ := x
  obtain rfl : s = oL := by simpa using hxs
  obtain ⟨A6, n6, c6, rfl, hl6, _⟩ := st1.row 0 rfl
  have hl6 : n6 = 1 := by
    have h9 : ([(oL, dv, kv)].flatMap stX).length = 7 := rfl
    rw [h9] at hl6; omega
  subst hl6
  obtain ⟨g6, o6, he6, hc6⟩ := (st1.rdS 0 rfl).2.at_ (by show 0 < 7; omega)
  subst he6
  have rd1 := (st.rdS 3 rfl).2.ext st1.low
  replace st := st.join st1
  refine XR_a (op_move rfl) rfl rfl ?_
  refine XR_a (op_extract rfl rfl) rfl rfl ?_
  refine XR_a (op_extract rfl rfl) rfl rfl ?_
  refine XR_a (op_assign rfl) rfl rfl ?_
  refine XR_a (op_assign rfl) rfl rfl ?_
  refine XR_nil ?_
  refine X_seq ?_
  refine X_reg ?_
  refine XR_a (op_move rfl) rfl rfl ?_
  refine XR_a (op_eql rfl rfl) rfl rfl ?_
  refine XR_a (op_move rfl) rfl rfl ?_
  refine XR_a (op_move rfl) rfl rfl ?_
  refine XR_a (op_eql rfl rfl) rfl rfl ?_
  refine XR_a (op_pick_t rfl rfl) rfl rfl ?_
  refine XR_a (op_move rfl) rfl rfl ?_
  refine XR_a (op_move rfl) rfl rfl ?_
  refine XR_a (op_eql rfl rfl) rfl rfl ?_
  refine XR_a (op_pick_t rfl rfl) rfl rfl ?_
  refine XR_a (op_move rfl) rfl rfl ?_
  refine XR_a (op_move rfl) rfl rfl ?_
  refine XR_a (op_str (l := [0, 0]) rd1 rfl rfl rfl rfl rfl) rfl rfl ?_
  refine XR_a (op_eqlS rfl rfl) rfl rfl ?_
  refine XR_as (.bool true) rfl ?_
  refine XR_a (op_pick_t rfl rfl) rfl rfl ?_
  refine XR_a (op_move rfl) rfl rfl ?_
  refine XR_a (op_move rfl) rfl rfl ?_
  refine XR_a (op_len rfl rfl rfl) rfl rfl ?_
  refine XR_a (op_eql rfl rfl) rfl rfl ?_
  refine XR_a (op_pick_t rfl rfl) rfl rfl ?_
  refine XR_a (op_move rfl) rfl rfl ?_
  refine XR_a (op_move rfl) rfl rfl ?_
  refine XR_a (op_index (i := 0) rfl rfl rfl (by omega)) rfl rfl ?_
  first | refine XR_a (op_field0 rfl rfl) rfl rfl ?_ | refine XR_a (op_fieldn rfl rfl) rfl rfl ?_
  refine XR_a (op_ld (hc6 1 (.string (str [97])) rfl) rfl rfl rfl) rfl rfl ?_
  refine XR_a (op_eqlS rfl rfl) rfl rfl ?_
  refine XR_as (.bool true) rfl ?_
  refine XR_a (op_pick_t rfl rfl) rfl rfl ?_
  refine XR_a (op_move rfl) rfl rfl ?_
  refine XR_a (op_move rfl) rfl rfl ?_
  refine XR_a (op_index (i := 0) rfl rfl rfl (by omega)) rfl rfl ?_
  first | refine XR_a (op_field0 rfl rfl) rfl rfl ?_ | refine XR_a (op_fieldn rfl rfl) rfl rfl ?_
  refine XR_a (op_ld (hc6 3 (.int .i64 (-1)) rfl) rfl rfl rfl) rfl rfl ?_
  refine XR_a (op_eql rfl rfl) rfl rfl ?_
  refine XR_as (.bool true) rfl ?_
  refine XR_a (op_pick_t rfl rfl) rfl rfl ?_
  refine XR_a (op_assign rfl) rfl rfl ?_
  refine XR_nil ?_
  refine X_ret (.cons (.tmp rfl) .nil) ?_
  exact ⟨rfl, st.low⟩

theorem scriptTakes_ret {m c : Nat} {A : Option Addr} {l : List UInt8} {h0 : Heap} (hr : Rd h0 A (l.map byteV)) (hl : l.length = m) (hmc : m ≤ c) :
    Ret Try.prog 3 [.slice A m c] h0 fun v h' => v = .bool true ∧ Ext h0 h' := by
  refine ret_of_X Try.func3 rfl rfl fun w0 hw0 => ?_
  simp only [argE, Nat.zero_add, Nat.reduceAdd]
  have st := St.start h0
  refine X_seq ?_
  refine X_reg ?_
  refine XR_a (op_assign rfl) rfl rfl ?_
  refine XR_nil ?_
  refine X_seq ?_
  refine X_seq ?_
  refine X_reg ?_
  refine XR_a (op_move rfl) rfl rfl ?_
  refine XR_a (op_len rfl rfl rfl) rfl rfl ?_
  refine XR_a (op_gtr rfl rfl) rfl rfl ?_
  refine XR_nil ?_
  refine X_if rfl (fun h => ?_) (fun h => ?_)
  · refine X_seq ?_
    refine X_reg ?_
    refine XR_wa (opl_call (lives31 _) rfl (by kernel_rfl)) rfl rfl rfl ?_
    rintro _ hp ⟨rfl, hx⟩
    refine XR_a (op_assign rfl) rfl rfl ?_
    refine XR_nil ?_
    refine X_ret (.cons (.tmp rfl) .nil) ?_
    exact ⟨rfl, hx⟩
  · refine X_skip ?_
    refine X_seq ?_
    refine X_reg ?_
    refine XR_a (op_move rfl) rfl rfl ?_
    refine XR_wa (opl_call (stake_spec hr hl (by omega) hmc) rfl (by kernel_rfl)) rfl rfl rfl ?_
    rintro _ hp ⟨w1, xs, L, rfl, hxs, hsub, st1⟩
    replace st := st.join st1
    obtain ⟨A1, n1, c1, rfl, hl1, _, _, rd1⟩ := st.row 0 rfl
    refine XR_a (op_move rfl) rfl rfl ?_
    refine XR_a (op_extract rfl rfl) rfl rfl ?_
    refine XR_a (op_extract rfl rfl) rfl rfl ?_
    refine XR_a (op_assign rfl) rfl rfl ?_
    refine XR_a (op_assign rfl) rfl rfl ?_
    refine XR_nil ?_
    refine X_seq ?_
    refine X_reg ?_
    refine XR_a (op_move rfl) rfl rfl ?_
    refine XR_wa (opl_call (take31_ref hr st.low hl (by omega) hmc) rfl (by kernel_rfl)) rfl rfl rfl ?_
    rintro _ hp ⟨w2, ys, L2, rfl, hys, hsub2, st2⟩
    obtain ⟨A2, n2, c2, rfl, hl2, _, _, rd2⟩ := st2.row 0 rfl
    rw [flat_length _ 7 (fun _ => rfl)] at hl1 hl2
    have hxr := takeS31_right l
    have hxn := takeS31_len l
    rw [← hxs] at hxr hxn
    rw [List.length_map] at hxn
    have ok1 : ∀ x ∈ xs, okX hp x := fun x hx => (hsub.ok st1.tail x hx).ext st2.low
    have ok2 := hsub2.ok (Ext.trans st.low st2.low) st2.tail
    refine XR_a (op_move rfl) rfl rfl ?_
    refine XR_a (op_extract rfl rfl) rfl rfl ?_
    refine XR_a (op_extract rfl rfl) rfl rfl ?_
    refine XR_a (op_assign rfl) rfl rfl ?_
    refine XR_a (op_assign rfl) rfl rfl ?_
    refine XR_nil ?_
    refine X_seq ?_
    refine X_reg ?_
    refine XR_a (op_move rfl) rfl rfl ?_
    refine XR_a (op_move rfl) rfl rfl ?_
    refine XR_wa (opl_call (all31_ref (rd1.ext st2.low) (by omega) rd2 (by omega) ok1 ok2 (fun x hx => by obtain ⟨_, _, _, _, _, h6⟩ := hxr x.1 (List.mem_map_of_mem (f := (·.1)) hx); omega) (by omega)) rfl (by kernel_rfl)) rfl rfl rfl ?_
    rintro _ hp ⟨rfl, hx5⟩
    rw [hxs, hys, decide_eq_true rfl]
    refine XR_a (op_move rfl) rfl rfl ?_
    refine XR_a (op_move rfl) rfl rfl ?_
    refine XR_a (op_move rfl) rfl rfl ?_
    refine XR_a (op_eql rfl rfl) rfl rfl ?_
    refine XR_as (.bool true) (congrArg Value.bool (decide_eq_true rfl)) ?_
    refine XR_a (op_pick_t rfl rfl) rfl rfl ?_
    refine XR_a (op_move rfl) rfl rfl ?_
    refine XR_wa (opl_call (lives31 _) rfl (by kernel_rfl)) rfl rfl rfl ?_
    rintro _ hp ⟨rfl, hx⟩
    refine XR_a (op_pick_t rfl rfl) rfl rfl ?_
    refine XR_a (op_assign rfl) rfl rfl ?_
    refine XR_nil ?_
    refine X_ret (.cons (.tmp rfl) .nil) ?_
    exact ⟨rfl, st.low.trans (st2.low.mono st.low.size) |>.trans ((hx5.trans hx).mono (Nat.le_trans st.low.size st2.low.size))⟩
end Go.Bn
