/- The contract of bindlelaw31.all. -/
import Derived.Test.YtpkhilbgkkjebaaScript7
set_option linter.unusedVariables false
set_option linter.unusedSimpArgs false
set_option maxHeartbeats 4000000
set_option maxRecDepth 20000
namespace Go.Bn
open Go Proofs

/-- What a step's slices show, in this heap. -/
def okX (h : Heap) (x : Stp × Value × Value) : Prop :=
  (∃ A n c, x.2.1 = .slice A n c ∧ x.1.data.length = n ∧ Rd h A (x.1.data.map byteV)) ∧ ∃ A n c, x.2.2 = .slice A n c ∧ x.1.keep.length = n ∧ Rd h A (x.1.keep.map Value.bool)
theorem okX.ext {h h' : Heap} {x : Stp × Value × Value} (ho : okX h x) (hx : Ext h h') : okX h' x := by
  obtain ⟨⟨A, n, c, e, hl, hr⟩, ⟨A', n', c', e', hl', hr'⟩⟩ := ho
  exact ⟨⟨A, n, c, e, hl, hr.ext hx⟩, ⟨A', n', c', e', hl', hr'.ext hx⟩⟩

theorem all31_ref {n n' c c' : Nat} {A A' : Option Addr} {xs ys : List (Stp × Value × Value)} {h0 : Heap} (hr : Rd h0 A (xs.flatMap stX)) (hl : xs.length = n) (hr' : Rd h0 A' (ys.flatMap stX)) (hl' : ys.length = n') (hx : ∀ x ∈ xs, okX h0 x) (hy : ∀ y ∈ ys, okX h0 y)
    (hk : ∀ x ∈ xs, x.1.keep.length ≤ 1048576) (hn : n ≤ 1048576) :
    Ret Try.prog 10 [.slice A n c, .slice A' n' c'] h0 fun v h' => v = .bool (decide (xs.map (·.1) = ys.map (·.1))) ∧ Ext h0 h' := by
  refine ret_of_X Try.func10 rfl rfl fun w0 hw0 => ?_
  simp only [argE, Nat.zero_add, Nat.reduceAdd]
  refine X_seq ?_
  refine X_reg ?_
  refine XR_a (op_assign rfl) rfl rfl ?_
  refine XR_nil ?_
  refine X_seq ?_
  refine X_seq ?_
  refine X_reg ?_
  refine XR_a (op_move rfl) rfl rfl ?_
  refine XR_a (op_len rfl rfl rfl) rfl rfl ?_
  refine XR_a (op_move rfl) rfl rfl ?_
  refine XR_a (op_len rfl rfl rfl) rfl rfl ?_
  refine XR_a (op_neq rfl rfl) rfl rfl ?_
  refine XR_nil ?_
  refine X_if rfl (fun h => ?_) (fun h => ?_)
  · refine X_seq ?_
    refine X_reg ?_
    refine XR_a (op_assign rfl) rfl rfl ?_
    refine XR_nil ?_
    refine X_ret (.cons (.tmp rfl) .nil) ?_
    refine ⟨congrArg Value.bool (decide_eq_false fun h9 => ?_).symm, Ext.refl _⟩
    have := congrArg List.length h9
    simp only [List.length_map] at this
    omega
  · refine X_skip ?_
    refine X_seq ?_
    refine X_seq ?_
    refine X_reg ?_
    refine XR_a (op_assign rfl) rfl rfl ?_
    refine XR_nil ?_
    refine X_block ?_
    have hnn : n = n' := by omega
    subst hnn
    refine X_loop (fun i => n - i) (fun i => [(0, .slice A n c), (1, .slice A' n c'), (5, nV i)])
      (fun (i : Nat) hp => i ≤ n ∧ (xs.take i).map (·.1) = (ys.take i).map (·.1) ∧ Ext h0 hp) 0 (.cons rfl (.cons rfl (.cons rfl (.nil _)))) ⟨Nat.zero_le _, rfl, Ext.refl _⟩ ?_
    rintro i hp ⟨hi, hall, hE⟩
    refine X_seq ?_
    refine X_seq ?_
    refine X_reg ?_
    refine XR_a (op_move rfl) rfl rfl ?_
    refine XR_a (op_move rfl) rfl rfl ?_
    refine XR_a (op_len rfl rfl rfl) rfl rfl ?_
    refine XR_a (op_lss rfl rfl) rfl rfl ?_
    refine XR_nil ?_
    refine X_if rfl (fun h => ?_) (fun h => ?_)
    · have hi1 : i < xs.length := by omega
      have hi2 : i < ys.length := by omega
      obtain ⟨g1, o1, rfl, hc1⟩ := Rd.flat stX 7 hr (fun _ => rfl) (by omega) (by omega)
      obtain ⟨g2, o2, rfl, hc2⟩ := Rd.flat stX 7 hr' (fun _ => rfl) (by omega) (by omega)
      obtain ⟨⟨Ad, nd, cd, e1, hl1, r1⟩, ⟨Ak, nk, ck, e2, hl2, r2⟩⟩ := hx xs[i] (List.getElem_mem hi1)
      obtain ⟨⟨Bd, md, dd, e3, hl3, r3⟩, ⟨Bk, mk, dk, e4, hl4, r4⟩⟩ := hy ys[i] (List.getElem_mem hi2)
      have hkx := hk xs[i] (List.getElem_mem hi1)
      have hcx := fun q u (hu : (stX xs[i])[q]? = some u) => cellH_ext (a := ⟨g1, o1 + i * 7 + q, none⟩) hE (hc1 i hi1 q u hu)
      have hcy := fun q u (hu : (stX ys[i])[q]? = some u) => cellH_ext (a := ⟨g2, o2 + i * 7 + q, none⟩) hE (hc2 i hi2 q u hu)
      subst hl1 hl2 hl3 hl4
      simp only [stX, e1, e2, e3, e4] at hcx hcy
      refine X_skip ?_
      refine X_seq ?_
      refine X_block ?_
      refine X_seq ?_
      refine X_draw (butAt [(8, .grow)]) (by kernel_rfl) (by kernel_rfl) ?_
      refine XR_a (op_move rfl) rfl rfl ?_
      refine XR_a (op_move rfl) rfl rfl ?_
      refine XR_a (op_index (i := i) rfl rfl rfl (by omega)) rfl rfl ?_
      refine XR_a (op_ldA (vs := stC xs[i].1 (.slice Ad xs[i].1.data.length cd) (.slice Ak xs[i].1.keep.length ck)) hcx rfl rfl rfl rfl) rfl rfl ?_
      refine XR_a (op_move rfl) rfl rfl ?_
      refine XR_a (op_move rfl) rfl rfl ?_
      refine XR_a (op_index (i := i) rfl rfl rfl (by omega)) rfl rfl ?_
      refine XR_a (op_ldA (vs := stC ys[i].1 (.slice Bd ys[i].1.data.length dd) (.slice Bk ys[i].1.keep.length dk)) hcy rfl rfl rfl rfl) rfl rfl ?_
      refine XR_ga (opl_call (same31_ref (r1.ext hE) (r2.ext hE) (r3.ext hE) (r4.ext hE) hkx) rfl (by kernel_rfl)) rfl rfl rfl (fun _ _ h => h.2) ?_
      rintro _ hp2 ⟨rfl, hE2⟩
      refine XR_a (op_not rfl) rfl rfl ?_
      refine XR_as (.bool (decide (¬ xs[i].1 = ys[i].1))) (by simp) ?_
      refine XR_nil ?_
      refine X_if rfl (fun h => ?_) (fun h => ?_)
      · refine X_seq ?_
        refine X_reg ?_
        refine XR_a (op_assign rfl) rfl rfl ?_
        refine XR_nil ?_
        refine X_ret (.cons (.tmp rfl) .nil) ?_
        refine ⟨congrArg Value.bool (decide_eq_false fun h9 => h ?_).symm, Ext.trans hE hE2⟩
        have := congrArg (fun l : List Stp => l[i]?) h9
        simpa [hi1, hi2] using this
      · refine X_skip ?_
        refine X_blk ?_
        refine X_reg ?_
        refine XR_a (op_move rfl) rfl rfl ?_
        first | refine XR_a (op_addN (n := 1) rfl rfl (by simp only [inK]; omega)) rfl rfl ?_ | refine XR_a (op_addI rfl rfl (by simp only [inK]; omega)) rfl rfl ?_ | refine XR_a (op_add rfl rfl) rfl rfl ?_
        refine XR_a (op_assign rfl) rfl rfl ?_
        refine XR_nil ?_
        have hbe := Decidable.not_not.1 h
        exact X_again (i + 1) (.cons rfl (.cons rfl (.cons rfl (.nil _)))) ⟨by omega, by rw [List.take_succ_eq_append_getElem hi1, List.take_succ_eq_append_getElem hi2, List.map_append, List.map_append, hall]; simp [hbe], Ext.trans hE hE2⟩ (by omega)
    · refine X_exit rfl ?_
      refine X_seq ?_
      refine X_reg ?_
      refine XR_a (op_assign rfl) rfl rfl ?_
      refine XR_nil ?_
      refine X_ret (.cons (.tmp rfl) .nil) ?_
      rw [List.take_of_length_le (by omega), List.take_of_length_le (by omega)] at hall
      exact ⟨congrArg Value.bool (decide_eq_true hall).symm, hE⟩
end Go.Bn
