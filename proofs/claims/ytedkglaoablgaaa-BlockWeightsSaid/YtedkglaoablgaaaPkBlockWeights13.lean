/- Packed texts of a claim: what its theorem uses, joined. -/
import Derived.Test.YtedkglaoablgaaaPkBlockWeights7
import Derived.Test.YtedkglaoablgaaaPkBlockWeights12
section
set_option linter.unusedVariables false
set_option linter.unusedSimpArgs false
set_option maxHeartbeats 4000000
set_option maxRecDepth 20000
namespace Go.Bn
open Go Proofs
theorem eqRun_is {x : Nat} : ∀ {d : List Nat} {k : Nat}, k ≤ d.length → (∀ i, i < k → d.getD i 0 = x) → (d.length ≤ k ∨ d.getD k 0 ≠ x) → eqRun x d = k
  | [], k, h1, _, _ => by
    have : k = 0 := by simpa using h1
    subst this; rfl
  | y :: r, 0, h1, h2, h3 => by
    unfold eqRun
    rcases h3 with h3 | h3
    · simp at h3
    · rw [if_neg (by simpa using h3)]
  | y :: r, k + 1, h1, h2, h3 => by
    have hy := h2 0 (by omega)
    rw [List.getD_cons_zero] at hy
    unfold eqRun
    rw [if_pos hy, eqRun_is (k := k) (by simpa using h1) (fun i hi => by have := h2 (i + 1) (by omega); rwa [List.getD_cons_succ] at this) (by rw [List.getD_cons_succ] at h3; simpa using h3)]
theorem getD_drop (l : List Nat) (a i : Nat) : (l.drop a).getD i 0 = l.getD (a + i) 0 := by simp [List.getD, List.getElem?_drop]
theorem rrow_spec {n c a : Nat} {A : Option Addr} {l : List Nat} {h0 : Heap} (hr : Rd h0 A (l.map nV)) (hl : l.length = n) (hn : n ≤ 17592186044416) (ha : a < n) :
    Ret Try.prog 183 [.slice A n c, nV a] h0 fun v h' => v = nV (runAt l a) ∧ h0 = h' := by
  obtain ⟨g, o, rfl, hc⟩ := hr.at_ (by rw [List.length_map]; omega)
  have hci : ∀ i, i < n → cellH h0 ⟨g, o + i, none⟩ = some (nV (l.getD i 0)) := fun i hi => hc i _ (by rw [List.getElem?_map, List.getElem?_eq_getElem (by omega), getD_get (by omega)]; rfl)
  refine ret_of_X Try.func183 rfl rfl fun w0 hw0 => ?_
  simp only [argE, Nat.zero_add, Nat.reduceAdd]
  refine X_seq ?_
  refine X_reg ?_
  refine XR_a (op_assign rfl) rfl rfl ?_
  refine XR_nil ?_
  refine X_seq ?_
  refine X_reg ?_
  refine XR_a (op_assign rfl) rfl rfl ?_
  refine XR_nil ?_
  refine X_seq ?_
  refine X_block ?_
  refine X_loop (fun k => n - k) (fun k => [(0, .slice (some ⟨g, o, none⟩) n c), (1, nV a), (5, nV k)])
    (fun (k : Nat) hp => h0 = hp ∧ a + k ≤ n ∧ ∀ i, i < k → l.getD (a + i) 0 = l.getD a 0)
    0 (.cons rfl (.cons rfl (.cons rfl (.nil _)))) ⟨rfl, by omega, fun i hi => by omega⟩ ?_
  rintro k hp ⟨rfl, hk, hall⟩
  have hfin : (n ≤ a + k ∨ l.getD (a + k) 0 ≠ l.getD a 0) → runAt l a = k := fun h => by
    unfold runAt
    refine eqRun_is (by rw [List.length_drop]; omega) (fun i hi => by rw [getD_drop]; exact hall i hi) ?_
    rw [List.length_drop, getD_drop]
    rcases h with h | h
    · left; omega
    · exact .inr h
  refine X_seq ?_
  refine X_seq ?_
  refine X_draw byKind (by kernel_rfl) (by kernel_rfl) ?_
  refine XR_a (op_move rfl) rfl rfl ?_
  refine XR_a (op_move rfl) rfl rfl ?_
  first | refine XR_a (op_addN rfl rfl (by simp only [inK]; omega)) rfl rfl ?_ | refine XR_a (op_addI rfl rfl (by simp only [inK]; omega)) rfl rfl ?_ | refine XR_a (op_add rfl rfl) rfl rfl ?_
  refine XR_a (op_move rfl) rfl rfl ?_
  refine XR_a (op_len rfl rfl rfl) rfl rfl ?_
  refine XR_a (op_lss rfl rfl) rfl rfl ?_
  refine XR_a (op_move rfl) rfl rfl ?_
  refine XR_if 12 rfl (fun h => ?_) (fun h => ?_)
  · have h12 := h
    refine XR_a (op_move rfl) rfl rfl ?_
    refine XR_a (op_move rfl) rfl rfl ?_
    refine XR_a (op_move rfl) rfl rfl ?_
    first | refine XR_a (op_addN rfl rfl (by simp only [inK]; omega)) rfl rfl ?_ | refine XR_a (op_addI rfl rfl (by simp only [inK]; omega)) rfl rfl ?_ | refine XR_a (op_add rfl rfl) rfl rfl ?_
    refine XR_a (op_index1 (i := a + k) rfl rfl rfl (by omega)) rfl rfl ?_
    refine XR_a (op_ld (hci (a + k) (by omega)) rfl rfl rfl) rfl rfl ?_
    refine XR_a (op_move rfl) rfl rfl ?_
    refine XR_a (op_move rfl) rfl rfl ?_
    first | refine XR_a (op_index1 rfl rfl rfl (by omega)) rfl rfl ?_ | refine XR_a (op_index rfl rfl rfl (by omega)) rfl rfl ?_
    refine XR_a (op_ld (hci a (by omega)) rfl rfl rfl) rfl rfl ?_
    refine XR_a (op_eql rfl rfl) rfl rfl ?_
    refine XR_a (op_pick_t rfl rfl) rfl rfl ?_
    refine XR_nil ?_
    refine X_if rfl (fun h => ?_) (fun h => ?_)
    · refine X_skip ?_
      refine X_block ?_
      refine X_reg ?_
      refine XR_a (op_move rfl) rfl rfl ?_
      first | refine XR_a (op_addN (n := 1) rfl rfl (by simp only [inK]; omega)) rfl rfl ?_ | refine XR_a (op_addI rfl rfl (by simp only [inK]; omega)) rfl rfl ?_ | refine XR_a (op_add rfl rfl) rfl rfl ?_
      refine XR_a (op_assign rfl) rfl rfl ?_
      refine XR_nil ?_
      refine X_blk ?_
      exact X_again (k + 1) (.cons rfl (.cons rfl (.cons rfl (.nil _)))) ⟨rfl, by omega, fun i hi => by
        rcases Nat.lt_or_ge i k with h9 | h9
        · exact hall i h9
        · obtain rfl : i = k := by omega
          omega⟩ (by omega)
    · refine X_exit rfl ?_
      refine X_seq ?_
      refine X_reg ?_
      refine XR_a (op_move rfl) rfl rfl ?_
      refine XR_a (op_assign rfl) rfl rfl ?_
      refine XR_nil ?_
      refine X_ret (.cons (.tmp rfl) .nil) ?_
      rw [hfin (.inr (by omega))]
      exact ⟨rfl, rfl⟩
  · refine XR_no rfl rfl ?_
    refine XR_no rfl rfl ?_
    refine XR_no rfl rfl ?_
    refine XR_no rfl rfl ?_
    refine XR_no rfl rfl ?_
    refine XR_no rfl rfl ?_
    refine XR_no rfl rfl ?_
    refine XR_no rfl rfl ?_
    refine XR_no rfl rfl ?_
    refine XR_no rfl rfl ?_
    refine XR_no rfl rfl ?_
    refine XR_a (op_pick_f rfl rfl) rfl rfl ?_
    refine XR_nil ?_
    refine X_else rfl ?_
    refine X_exit rfl ?_
    refine X_seq ?_
    refine X_reg ?_
    refine XR_a (op_move rfl) rfl rfl ?_
    refine XR_a (op_assign rfl) rfl rfl ?_
    refine XR_nil ?_
    refine X_ret (.cons (.tmp rfl) .nil) ?_
    rw [hfin (.inl (by omega))]
    exact ⟨rfl, rfl⟩
def pC2 (x : Nat × Nat) : List Value := [nV x.1, nV x.2]
theorem one_pC2 (x : Nat × Nat) : ∀ u ∈ pC2 x, Value.one u = true := one_nV [x.1, x.2]
theorem rpart_spec {n c a : Nat} {A : Option Addr} {l : List Nat} {h0 : Heap} (hr : Rd h0 A (l.map nV)) (hl : l.length = n) (hn : n ≤ 17592186044416) (ha : a < n) :
    Ret Try.prog 166 [.slice A n c, nV a] h0 fun v h' => v = .agg (pC2 (partAt l a)).toArray ∧ Ext h0 h' := by
  obtain ⟨g, o, rfl, hc⟩ := hr.at_ (by rw [List.length_map]; omega)
  have hci : ∀ i, i < n → cellH h0 ⟨g, o + i, none⟩ = some (nV (l.getD i 0)) := fun i hi => hc i _ (by rw [List.getElem?_map, List.getElem?_eq_getElem (by omega), getD_get (by omega)]; rfl)
  have hP : partAt l a = if l.getD a 0 = 0 ∧ 11 ≤ runAt l a then (18, min (runAt l a) 138) else if l.getD a 0 = 0 ∧ 3 ≤ runAt l a then (17, runAt l a) else
    if 0 < a ∧ l.getD a 0 = l.getD (a - 1) 0 ∧ 3 ≤ runAt l a then (16, min (runAt l a) 6) else (l.getD a 0, 1) := rfl
  have hrl := runAt_le l a
  refine ret_of_X Try.func166 rfl rfl fun w0 hw0 => ?_
  simp only [argE, Nat.zero_add, Nat.reduceAdd]
  have st := St.start h0
  refine X_seq ?_
  refine X_reg ?_
  refine XR_wa (opl_new rfl) rfl rfl rfl ?_
  rintro _ hp ⟨p, rfl, hnew⟩
  replace st := st.new hnew
  have hcx := fun i (hi : i < n) => cellH_ext (a := ⟨g, o + i, none⟩) st.low (hci i hi)
  refine XR_nil ?_
  refine X_seq ?_
  refine X_reg ?_
  refine XR_a (op_move rfl) rfl rfl ?_
  refine XR_a (op_move rfl) rfl rfl ?_
  refine XR_wa (opl_call (rrow_spec (hr.ext st.low) hl hn ha) rfl (by kernel_rfl)) rfl rfl rfl ?_
  rintro _ _ ⟨rfl, rfl⟩
  obtain ⟨r, hre⟩ : ∃ r, runAt l a = r := ⟨_, rfl⟩
  rw [hre] at hP hrl ⊢
  refine XR_a (op_assign rfl) rfl rfl ?_
  refine XR_nil ?_
  refine X_seq ?_
  refine X_block ?_
  refine X_seq ?_
  refine X_reg ?_
  refine XR_a (op_move rfl) rfl rfl ?_
  refine XR_a (op_move rfl) rfl rfl ?_
  first | refine XR_a (op_index1 rfl rfl rfl (by omega)) rfl rfl ?_ | refine XR_a (op_index rfl rfl rfl (by omega)) rfl rfl ?_
  refine XR_a (op_ld (hcx a ha) rfl rfl rfl) rfl rfl ?_
  refine XR_a (op_eql rfl rfl) rfl rfl ?_
  refine XR_a (op_move rfl) rfl rfl ?_
  refine XR_if 15 rfl (fun h => ?_) (fun h => ?_)
  · have h15 := h
    refine XR_a (op_move rfl) rfl rfl ?_
    refine XR_a (op_geq rfl rfl) rfl rfl ?_
    refine XR_a (op_pick_t rfl rfl) rfl rfl ?_
    refine XR_a (op_assign rfl) rfl rfl ?_
    refine XR_nil ?_
    refine X_if rfl (fun h => ?_) (fun h => ?_)
    · refine X_seq ?_
      refine X_reg ?_
      refine XR_a (op_move rfl) rfl rfl ?_
      refine XR_a (op_min2 rfl rfl) rfl rfl ?_
      refine XR_as (nV (min r 138)) (congrArg (Value.int .i64) (by omega)) ?_
      refine XR_a (op_build (ps := [(0, nV 18), (1, nV (min r 138))]) (cs := #[nV 18, nV (min r 138)]) rfl rfl) rfl rfl ?_
      refine XR_wn (opl_store_whole (us := [nV 18, nV (min r 138)]) st 0 rfl rfl rfl rfl rfl (one_nV [18, _]) rfl) rfl rfl fun _ hp st => ?_
      simp only [List.set_cons_zero] at st
      refine XR_nil ?_
      refine X_ret (.cons (RV_agg rfl rfl rfl (st.cells 0 rfl)) .nil) ?_
      rw [hP, if_pos (by omega)]
      exact ⟨rfl, st.low⟩
    · have h1 := h
      refine X_seq ?_
      refine X_reg ?_
      refine XR_a (op_move rfl) rfl rfl ?_
      refine XR_a (op_move rfl) rfl rfl ?_
      first | refine XR_a (op_index1 rfl rfl rfl (by omega)) rfl rfl ?_ | refine XR_a (op_index rfl rfl rfl (by omega)) rfl rfl ?_
      refine XR_a (op_ld (hcx a ha) rfl rfl rfl) rfl rfl ?_
      refine XR_a (op_eql rfl rfl) rfl rfl ?_
      refine XR_a (op_move rfl) rfl rfl ?_
      refine XR_if 28 rfl (fun h => ?_) (fun h => ?_)
      · have h28 := h
        refine XR_a (op_move rfl) rfl rfl ?_
        refine XR_a (op_geq rfl rfl) rfl rfl ?_
        refine XR_a (op_pick_t rfl rfl) rfl rfl ?_
        refine XR_a (op_assign rfl) rfl rfl ?_
        refine XR_nil ?_
        refine X_if rfl (fun h => ?_) (fun h => ?_)
        · refine X_seq ?_
          refine X_reg ?_
          refine XR_a (op_move rfl) rfl rfl ?_
          refine XR_a (op_build (ps := [(0, nV 17), (1, nV r)]) (cs := #[nV 17, nV r]) rfl rfl) rfl rfl ?_
          refine XR_wn (opl_store_whole (us := [nV 17, nV r]) st 0 rfl rfl rfl rfl rfl (one_nV [17, _]) rfl) rfl rfl fun _ hp st => ?_
          simp only [List.set_cons_zero] at st
          refine XR_nil ?_
          refine X_ret (.cons (RV_agg rfl rfl rfl (st.cells 0 rfl)) .nil) ?_
          rw [hP, if_neg (by omega), if_pos (by omega)]
          exact ⟨rfl, st.low⟩
        · have h2 := h
          refine X_seq ?_
          refine X_draw byKind (by kernel_rfl) (by kernel_rfl) ?_
          refine XR_a (op_move rfl) rfl rfl ?_
          refine XR_a (op_gtr rfl rfl) rfl rfl ?_
          refine XR_a (op_move rfl) rfl rfl ?_
          refine XR_if 37 rfl (fun h => ?_) (fun h => ?_)
          · have h37 := h
            refine XR_a (op_move rfl) rfl rfl ?_
            refine XR_a (op_move rfl) rfl rfl ?_
            first | refine XR_a (op_index1 rfl rfl rfl (by omega)) rfl rfl ?_ | refine XR_a (op_index rfl rfl rfl (by omega)) rfl rfl ?_
            refine XR_a (op_ld (hcx a ha) rfl rfl rfl) rfl rfl ?_
            refine XR_a (op_move rfl) rfl rfl ?_
            refine XR_a (op_move rfl) rfl rfl ?_
            first | refine XR_a (op_subN (n := 1) rfl rfl (by omega) (by simp only [inK]; omega)) rfl rfl ?_ | refine XR_a (op_subI rfl rfl (by simp only [inK]; omega)) rfl rfl ?_ | refine XR_a (op_sub rfl rfl) rfl rfl ?_
            refine XR_a (op_index1 (i := a - 1) rfl rfl rfl (by omega)) rfl rfl ?_
            refine XR_a (op_ld (hcx (a - 1) (by omega)) rfl rfl rfl) rfl rfl ?_
            refine XR_a (op_eql rfl rfl) rfl rfl ?_
            refine XR_a (op_pick_t rfl rfl) rfl rfl ?_
            refine XR_a (op_move rfl) rfl rfl ?_
            refine XR_if 49 rfl (fun h => ?_) (fun h => ?_)
            · have h49 := h
              refine XR_a (op_move rfl) rfl rfl ?_
              refine XR_a (op_geq rfl rfl) rfl rfl ?_
              refine XR_a (op_pick_t rfl rfl) rfl rfl ?_
              refine XR_a (op_assign rfl) rfl rfl ?_
              refine XR_nil ?_
              refine X_if rfl (fun h => ?_) (fun h => ?_)
              · refine X_seq ?_
                refine X_reg ?_
                refine XR_a (op_move rfl) rfl rfl ?_
                refine XR_a (op_min2 rfl rfl) rfl rfl ?_
                refine XR_as (nV (min r 6)) (congrArg (Value.int .i64) (by omega)) ?_
                refine XR_a (op_build (ps := [(0, nV 16), (1, nV (min r 6))]) (cs := #[nV 16, nV (min r 6)]) rfl rfl) rfl rfl ?_
                refine XR_wn (opl_store_whole (us := [nV 16, nV (min r 6)]) st 0 rfl rfl rfl rfl rfl (one_nV [16, _]) rfl) rfl rfl fun _ hp st => ?_
                simp only [List.set_cons_zero] at st
                refine XR_nil ?_
                refine X_ret (.cons (RV_agg rfl rfl rfl (st.cells 0 rfl)) .nil) ?_
                rw [hP, if_neg (by omega), if_neg (by omega), if_pos (by omega)]
                exact ⟨rfl, st.low⟩
              · have h3 := h
                refine X_skip ?_
                refine X_blk ?_
                refine X_seq ?_
                refine X_reg ?_
                refine XR_a (op_move rfl) rfl rfl ?_
                refine XR_a (op_move rfl) rfl rfl ?_
                first | refine XR_a (op_index1 rfl rfl rfl (by omega)) rfl rfl ?_ | refine XR_a (op_index rfl rfl rfl (by omega)) rfl rfl ?_
                refine XR_a (op_ld (hcx a ha) rfl rfl rfl) rfl rfl ?_
                refine XR_a (op_build (ps := [(0, nV (l.getD a 0)), (1, nV 1)]) (cs := #[nV (l.getD a 0), nV 1]) rfl rfl) rfl rfl ?_
                refine XR_wn (opl_store_whole (us := [nV (l.getD a 0), nV 1]) st 0 rfl rfl rfl rfl rfl (one_nV [_, 1]) rfl) rfl rfl fun _ hp st => ?_
                simp only [List.set_cons_zero] at st
                refine XR_nil ?_
                refine X_ret (.cons (RV_agg rfl rfl rfl (st.cells 0 rfl)) .nil) ?_
                rw [hP, if_neg (by omega), if_neg (by omega), if_neg (by omega)]
                exact ⟨rfl, st.low⟩
            · have h49 := h
              refine XR_no rfl rfl ?_
              refine XR_no rfl rfl ?_
              refine XR_a (op_pick_f rfl rfl) rfl rfl ?_
              refine XR_a (op_assign rfl) rfl rfl ?_
              refine XR_nil ?_
              refine X_else rfl ?_
              refine X_skip ?_
              refine X_blk ?_
              refine X_seq ?_
              refine X_reg ?_
              refine XR_a (op_move rfl) rfl rfl ?_
              refine XR_a (op_move rfl) rfl rfl ?_
              first | refine XR_a (op_index1 rfl rfl rfl (by omega)) rfl rfl ?_ | refine XR_a (op_index rfl rfl rfl (by omega)) rfl rfl ?_
              refine XR_a (op_ld (hcx a ha) rfl rfl rfl) rfl rfl ?_
              refine XR_a (op_build (ps := [(0, nV (l.getD a 0)), (1, nV 1)]) (cs := #[nV (l.getD a 0), nV 1]) rfl rfl) rfl rfl ?_
              refine XR_wn (opl_store_whole (us := [nV (l.getD a 0), nV 1]) st 0 rfl rfl rfl rfl rfl (one_nV [_, 1]) rfl) rfl rfl fun _ hp st => ?_
              simp only [List.set_cons_zero] at st
              refine XR_nil ?_
              refine X_ret (.cons (RV_agg rfl rfl rfl (st.cells 0 rfl)) .nil) ?_
              rw [hP, if_neg (by omega), if_neg (by omega), if_neg (by omega)]
              exact ⟨rfl, st.low⟩
          · have h37 := h
            refine XR_no rfl rfl ?_
            refine XR_no rfl rfl ?_
            refine XR_no rfl rfl ?_
            refine XR_no rfl rfl ?_
            refine XR_no rfl rfl ?_
            refine XR_no rfl rfl ?_
            refine XR_no rfl rfl ?_
            refine XR_no rfl rfl ?_
            refine XR_no rfl rfl ?_
            refine XR_no rfl rfl ?_
            refine XR_a (op_pick_f rfl rfl) rfl rfl ?_
            refine XR_a (op_move rfl) rfl rfl ?_
            refine XR_no rfl rfl ?_
            refine XR_no rfl rfl ?_
            refine XR_a (op_pick_f rfl rfl) rfl rfl ?_
            refine XR_a (op_assign rfl) rfl rfl ?_
            refine XR_nil ?_
            refine X_else rfl ?_
            refine X_skip ?_
            refine X_blk ?_
            refine X_seq ?_
            refine X_reg ?_
            refine XR_a (op_move rfl) rfl rfl ?_
            refine XR_a (op_move rfl) rfl rfl ?_
            first | refine XR_a (op_index1 rfl rfl rfl (by omega)) rfl rfl ?_ | refine XR_a (op_index rfl rfl rfl (by omega)) rfl rfl ?_
            refine XR_a (op_ld (hcx a ha) rfl rfl rfl) rfl rfl ?_
            refine XR_a (op_build (ps := [(0, nV (l.getD a 0)), (1, nV 1)]) (cs := #[nV (l.getD a 0), nV 1]) rfl rfl) rfl rfl ?_
            refine XR_wn (opl_store_whole (us := [nV (l.getD a 0), nV 1]) st 0 rfl rfl rfl rfl rfl (one_nV [_, 1]) rfl) rfl rfl fun _ hp st => ?_
            simp only [List.set_cons_zero] at st
            refine XR_nil ?_
            refine X_ret (.cons (RV_agg rfl rfl rfl (st.cells 0 rfl)) .nil) ?_
            rw [hP, if_neg (by omega), if_neg (by omega), if_neg (by omega)]
            exact ⟨rfl, st.low⟩
      · have h28 := h
        refine XR_no rfl rfl ?_
        refine XR_no rfl rfl ?_
        refine XR_a (op_pick_f rfl rfl) rfl rfl ?_
        refine XR_a (op_assign rfl) rfl rfl ?_
        refine XR_nil ?_
        refine X_else rfl ?_
        refine X_seq ?_
        refine X_draw byKind (by kernel_rfl) (by kernel_rfl) ?_
        refine XR_a (op_move rfl) rfl rfl ?_
        refine XR_a (op_gtr rfl rfl) rfl rfl ?_
        refine XR_a (op_move rfl) rfl rfl ?_
        refine XR_if 37 rfl (fun h => ?_) (fun h => ?_)
        · have h37 := h
          refine XR_a (op_move rfl) rfl rfl ?_
          refine XR_a (op_move rfl) rfl rfl ?_
          first | refine XR_a (op_index1 rfl rfl rfl (by omega)) rfl rfl ?_ | refine XR_a (op_index rfl rfl rfl (by omega)) rfl rfl ?_
          refine XR_a (op_ld (hcx a ha) rfl rfl rfl) rfl rfl ?_
          refine XR_a (op_move rfl) rfl rfl ?_
          refine XR_a (op_move rfl) rfl rfl ?_
          first | refine XR_a (op_subN (n := 1) rfl rfl (by omega) (by simp only [inK]; omega)) rfl rfl ?_ | refine XR_a (op_subI rfl rfl (by simp only [inK]; omega)) rfl rfl ?_ | refine XR_a (op_sub rfl rfl) rfl rfl ?_
          refine XR_a (op_index1 (i := a - 1) rfl rfl rfl (by omega)) rfl rfl ?_
          refine XR_a (op_ld (hcx (a - 1) (by omega)) rfl rfl rfl) rfl rfl ?_
          refine XR_a (op_eql rfl rfl) rfl rfl ?_
          refine XR_a (op_pick_t rfl rfl) rfl rfl ?_
          refine XR_a (op_move rfl) rfl rfl ?_
          refine XR_if 49 rfl (fun h => ?_) (fun h => ?_)
          · have h49 := h
            refine XR_a (op_move rfl) rfl rfl ?_
            refine XR_a (op_geq rfl rfl) rfl rfl ?_
            refine XR_a (op_pick_t rfl rfl) rfl rfl ?_
            refine XR_a (op_assign rfl) rfl rfl ?_
            refine XR_nil ?_
            refine X_if rfl (fun h => ?_) (fun h => ?_)
            · refine X_seq ?_
              refine X_reg ?_
              refine XR_a (op_move rfl) rfl rfl ?_
              refine XR_a (op_min2 rfl rfl) rfl rfl ?_
              refine XR_as (nV (min r 6)) (congrArg (Value.int .i64) (by omega)) ?_
              refine XR_a (op_build (ps := [(0, nV 16), (1, nV (min r 6))]) (cs := #[nV 16, nV (min r 6)]) rfl rfl) rfl rfl ?_
              refine XR_wn (opl_store_whole (us := [nV 16, nV (min r 6)]) st 0 rfl rfl rfl rfl rfl (one_nV [16, _]) rfl) rfl rfl fun _ hp st => ?_
              simp only [List.set_cons_zero] at st
              refine XR_nil ?_
              refine X_ret (.cons (RV_agg rfl rfl rfl (st.cells 0 rfl)) .nil) ?_
              rw [hP, if_neg (by omega), if_neg (by omega), if_pos (by omega)]
              exact ⟨rfl, st.low⟩
            · have h3 := h
              refine X_skip ?_
              refine X_blk ?_
              refine X_seq ?_
              refine X_reg ?_
              refine XR_a (op_move rfl) rfl rfl ?_
              refine XR_a (op_move rfl) rfl rfl ?_
              first | refine XR_a (op_index1 rfl rfl rfl (by omega)) rfl rfl ?_ | refine XR_a (op_index rfl rfl rfl (by omega)) rfl rfl ?_
              refine XR_a (op_ld (hcx a ha) rfl rfl rfl) rfl rfl ?_
              refine XR_a (op_build (ps := [(0, nV (l.getD a 0)), (1, nV 1)]) (cs := #[nV (l.getD a 0), nV 1]) rfl rfl) rfl rfl ?_
              refine XR_wn (opl_store_whole (us := [nV (l.getD a 0), nV 1]) st 0 rfl rfl rfl rfl rfl (one_nV [_, 1]) rfl) rfl rfl fun _ hp st => ?_
              simp only [List.set_cons_zero] at st
              refine XR_nil ?_
              refine X_ret (.cons (RV_agg rfl rfl rfl (st.cells 0 rfl)) .nil) ?_
              rw [hP, if_neg (by omega), if_neg (by omega), if_neg (by omega)]
              exact ⟨rfl, st.low⟩
          · have h49 := h
            refine XR_no rfl rfl ?_
            refine XR_no rfl rfl ?_
            refine XR_a (op_pick_f rfl rfl) rfl rfl ?_
            refine XR_a (op_assign rfl) rfl rfl ?_
            refine XR_nil ?_
            refine X_else rfl ?_
            refine X_skip ?_
            refine X_blk ?_
            refine X_seq ?_
            refine X_reg ?_
            refine XR_a (op_move rfl) rfl rfl ?_
            refine XR_a (op_move rfl) rfl rfl ?_
            first | refine XR_a (op_index1 rfl rfl rfl (by omega)) rfl rfl ?_ | refine XR_a (op_index rfl rfl rfl (by omega)) rfl rfl ?_
            refine XR_a (op_ld (hcx a ha) rfl rfl rfl) rfl rfl ?_
            refine XR_a (op_build (ps := [(0, nV (l.getD a 0)), (1, nV 1)]) (cs := #[nV (l.getD a 0), nV 1]) rfl rfl) rfl rfl ?_
            refine XR_wn (opl_store_whole (us := [nV (l.getD a 0), nV 1]) st 0 rfl rfl rfl rfl rfl (one_nV [_, 1]) rfl) rfl rfl fun _ hp st => ?_
            simp only [List.set_cons_zero] at st
            refine XR_nil ?_
            refine X_ret (.cons (RV_agg rfl rfl rfl (st.cells 0 rfl)) .nil) ?_
            rw [hP, if_neg (by omega), if_neg (by omega), if_neg (by omega)]
            exact ⟨rfl, st.low⟩
        · have h37 := h
          refine XR_no rfl rfl ?_
          refine XR_no rfl rfl ?_
          refine XR_no rfl rfl ?_
          refine XR_no rfl rfl ?_
          refine XR_no rfl rfl ?_
          refine XR_no rfl rfl ?_
          refine XR_no rfl rfl ?_
          refine XR_no rfl rfl ?_
          refine XR_no rfl rfl ?_
          refine XR_no rfl rfl ?_
          refine XR_a (op_pick_f rfl rfl) rfl rfl ?_
          refine XR_a (op_move rfl) rfl rfl ?_
          refine XR_no rfl rfl ?_
          refine XR_no rfl rfl ?_
          refine XR_a (op_pick_f rfl rfl) rfl rfl ?_
          refine XR_a (op_assign rfl) rfl rfl ?_
          refine XR_nil ?_
          refine X_else rfl ?_
          refine X_skip ?_
          refine X_blk ?_
          refine X_seq ?_
          refine X_reg ?_
          refine XR_a (op_move rfl) rfl rfl ?_
          refine XR_a (op_move rfl) rfl rfl ?_
          first | refine XR_a (op_index1 rfl rfl rfl (by omega)) rfl rfl ?_ | refine XR_a (op_index rfl rfl rfl (by omega)) rfl rfl ?_
          refine XR_a (op_ld (hcx a ha) rfl rfl rfl) rfl rfl ?_
          refine XR_a (op_build (ps := [(0, nV (l.getD a 0)), (1, nV 1)]) (cs := #[nV (l.getD a 0), nV 1]) rfl rfl) rfl rfl ?_
          refine XR_wn (opl_store_whole (us := [nV (l.getD a 0), nV 1]) st 0 rfl rfl rfl rfl rfl (one_nV [_, 1]) rfl) rfl rfl fun _ hp st => ?_
          simp only [List.set_cons_zero] at st
          refine XR_nil ?_
          refine X_ret (.cons (RV_agg rfl rfl rfl (st.cells 0 rfl)) .nil) ?_
          rw [hP, if_neg (by omega), if_neg (by omega), if_neg (by omega)]
          exact ⟨rfl, st.low⟩
  · have h15 := h
    refine XR_no rfl rfl ?_
    refine XR_no rfl rfl ?_
    refine XR_a (op_pick_f rfl rfl) rfl rfl ?_
    refine XR_a (op_assign rfl) rfl rfl ?_
    refine XR_nil ?_
    refine X_else rfl ?_
    refine X_seq ?_
    refine X_reg ?_
    refine XR_a (op_move rfl) rfl rfl ?_
    refine XR_a (op_move rfl) rfl rfl ?_
    first | refine XR_a (op_index1 rfl rfl rfl (by omega)) rfl rfl ?_ | refine XR_a (op_index rfl rfl rfl (by omega)) rfl rfl ?_
    refine XR_a (op_ld (hcx a ha) rfl rfl rfl) rfl rfl ?_
    refine XR_a (op_eql rfl rfl) rfl rfl ?_
    refine XR_a (op_move rfl) rfl rfl ?_
    refine XR_if 28 rfl (fun h => ?_) (fun h => ?_)
    · have h28 := h
      refine XR_a (op_move rfl) rfl rfl ?_
      refine XR_a (op_geq rfl rfl) rfl rfl ?_
      refine XR_a (op_pick_t rfl rfl) rfl rfl ?_
      refine XR_a (op_assign rfl) rfl rfl ?_
      refine XR_nil ?_
      refine X_if rfl (fun h => ?_) (fun h => ?_)
      · refine X_seq ?_
        refine X_reg ?_
        refine XR_a (op_move rfl) rfl rfl ?_
        refine XR_a (op_build (ps := [(0, nV 17), (1, nV r)]) (cs := #[nV 17, nV r]) rfl rfl) rfl rfl ?_
        refine XR_wn (opl_store_whole (us := [nV 17, nV r]) st 0 rfl rfl rfl rfl rfl (one_nV [17, _]) rfl) rfl rfl fun _ hp st => ?_
        simp only [List.set_cons_zero] at st
        refine XR_nil ?_
        refine X_ret (.cons (RV_agg rfl rfl rfl (st.cells 0 rfl)) .nil) ?_
        rw [hP, if_neg (by omega), if_pos (by omega)]
        exact ⟨rfl, st.low⟩
      · have h2 := h
        refine X_seq ?_
        refine X_draw byKind (by kernel_rfl) (by kernel_rfl) ?_
        refine XR_a (op_move rfl) rfl rfl ?_
        refine XR_a (op_gtr rfl rfl) rfl rfl ?_
        refine XR_a (op_move rfl) rfl rfl ?_
        refine XR_if 37 rfl (fun h => ?_) (fun h => ?_)
        · have h37 := h
          refine XR_a (op_move rfl) rfl rfl ?_
          refine XR_a (op_move rfl) rfl rfl ?_
          first | refine XR_a (op_index1 rfl rfl rfl (by omega)) rfl rfl ?_ | refine XR_a (op_index rfl rfl rfl (by omega)) rfl rfl ?_
          refine XR_a (op_ld (hcx a ha) rfl rfl rfl) rfl rfl ?_
          refine XR_a (op_move rfl) rfl rfl ?_
          refine XR_a (op_move rfl) rfl rfl ?_
          first | refine XR_a (op_subN (n := 1) rfl rfl (by omega) (by simp only [inK]; omega)) rfl rfl ?_ | refine XR_a (op_subI rfl rfl (by simp only [inK]; omega)) rfl rfl ?_ | refine XR_a (op_sub rfl rfl) rfl rfl ?_
          refine XR_a (op_index1 (i := a - 1) rfl rfl rfl (by omega)) rfl rfl ?_
          refine XR_a (op_ld (hcx (a - 1) (by omega)) rfl rfl rfl) rfl rfl ?_
          refine XR_a (op_eql rfl rfl) rfl rfl ?_
          refine XR_a (op_pick_t rfl rfl) rfl rfl ?_
          refine XR_a (op_move rfl) rfl rfl ?_
          refine XR_if 49 rfl (fun h => ?_) (fun h => ?_)
          · have h49 := h
            refine XR_a (op_move rfl) rfl rfl ?_
            refine XR_a (op_geq rfl rfl) rfl rfl ?_
            refine XR_a (op_pick_t rfl rfl) rfl rfl ?_
            refine XR_a (op_assign rfl) rfl rfl ?_
            refine XR_nil ?_
            refine X_if rfl (fun h => ?_) (fun h => ?_)
            · refine X_seq ?_
              refine X_reg ?_
              refine XR_a (op_move rfl) rfl rfl ?_
              refine XR_a (op_min2 rfl rfl) rfl rfl ?_
              refine XR_as (nV (min r 6)) (congrArg (Value.int .i64) (by omega)) ?_
              refine XR_a (op_build (ps := [(0, nV 16), (1, nV (min r 6))]) (cs := #[nV 16, nV (min r 6)]) rfl rfl) rfl rfl ?_
              refine XR_wn (opl_store_whole (us := [nV 16, nV (min r 6)]) st 0 rfl rfl rfl rfl rfl (one_nV [16, _]) rfl) rfl rfl fun _ hp st => ?_
              simp only [List.set_cons_zero] at st
              refine XR_nil ?_
              refine X_ret (.cons (RV_agg rfl rfl rfl (st.cells 0 rfl)) .nil) ?_
              rw [hP, if_neg (by omega), if_neg (by omega), if_pos (by omega)]
              exact ⟨rfl, st.low⟩
            · have h3 := h
              refine X_skip ?_
              refine X_blk ?_
              refine X_seq ?_
              refine X_reg ?_
              refine XR_a (op_move rfl) rfl rfl ?_
              refine XR_a (op_move rfl) rfl rfl ?_
              first | refine XR_a (op_index1 rfl rfl rfl (by omega)) rfl rfl ?_ | refine XR_a (op_index rfl rfl rfl (by omega)) rfl rfl ?_
              refine XR_a (op_ld (hcx a ha) rfl rfl rfl) rfl rfl ?_
              refine XR_a (op_build (ps := [(0, nV (l.getD a 0)), (1, nV 1)]) (cs := #[nV (l.getD a 0), nV 1]) rfl rfl) rfl rfl ?_
              refine XR_wn (opl_store_whole (us := [nV (l.getD a 0), nV 1]) st 0 rfl rfl rfl rfl rfl (one_nV [_, 1]) rfl) rfl rfl fun _ hp st => ?_
              simp only [List.set_cons_zero] at st
              refine XR_nil ?_
              refine X_ret (.cons (RV_agg rfl rfl rfl (st.cells 0 rfl)) .nil) ?_
              rw [hP, if_neg (by omega), if_neg (by omega), if_neg (by omega)]
              exact ⟨rfl, st.low⟩
          · have h49 := h
            refine XR_no rfl rfl ?_
            refine XR_no rfl rfl ?_
            refine XR_a (op_pick_f rfl rfl) rfl rfl ?_
            refine XR_a (op_assign rfl) rfl rfl ?_
            refine XR_nil ?_
            refine X_else rfl ?_
            refine X_skip ?_
            refine X_blk ?_
            refine X_seq ?_
            refine X_reg ?_
            refine XR_a (op_move rfl) rfl rfl ?_
            refine XR_a (op_move rfl) rfl rfl ?_
            first | refine XR_a (op_index1 rfl rfl rfl (by omega)) rfl rfl ?_ | refine XR_a (op_index rfl rfl rfl (by omega)) rfl rfl ?_
            refine XR_a (op_ld (hcx a ha) rfl rfl rfl) rfl rfl ?_
            refine XR_a (op_build (ps := [(0, nV (l.getD a 0)), (1, nV 1)]) (cs := #[nV (l.getD a 0), nV 1]) rfl rfl) rfl rfl ?_
            refine XR_wn (opl_store_whole (us := [nV (l.getD a 0), nV 1]) st 0 rfl rfl rfl rfl rfl (one_nV [_, 1]) rfl) rfl rfl fun _ hp st => ?_
            simp only [List.set_cons_zero] at st
            refine XR_nil ?_
            refine X_ret (.cons (RV_agg rfl rfl rfl (st.cells 0 rfl)) .nil) ?_
            rw [hP, if_neg (by omega), if_neg (by omega), if_neg (by omega)]
            exact ⟨rfl, st.low⟩
        · have h37 := h
          refine XR_no rfl rfl ?_
          refine XR_no rfl rfl ?_
          refine XR_no rfl rfl ?_
          refine XR_no rfl rfl ?_
          refine XR_no rfl rfl ?_
          refine XR_no rfl rfl ?_
          refine XR_no rfl rfl ?_
          refine XR_no rfl rfl ?_
          refine XR_no rfl rfl ?_
          refine XR_no rfl rfl ?_
          refine XR_a (op_pick_f rfl rfl) rfl rfl ?_
          refine XR_a (op_move rfl) rfl rfl ?_
          refine XR_no rfl rfl ?_
          refine XR_no rfl rfl ?_
          refine XR_a (op_pick_f rfl rfl) rfl rfl ?_
          refine XR_a (op_assign rfl) rfl rfl ?_
          refine XR_nil ?_
          refine X_else rfl ?_
          refine X_skip ?_
          refine X_blk ?_
          refine X_seq ?_
          refine X_reg ?_
          refine XR_a (op_move rfl) rfl rfl ?_
          refine XR_a (op_move rfl) rfl rfl ?_
          first | refine XR_a (op_index1 rfl rfl rfl (by omega)) rfl rfl ?_ | refine XR_a (op_index rfl rfl rfl (by omega)) rfl rfl ?_
          refine XR_a (op_ld (hcx a ha) rfl rfl rfl) rfl rfl ?_
          refine XR_a (op_build (ps := [(0, nV (l.getD a 0)), (1, nV 1)]) (cs := #[nV (l.getD a 0), nV 1]) rfl rfl) rfl rfl ?_
          refine XR_wn (opl_store_whole (us := [nV (l.getD a 0), nV 1]) st 0 rfl rfl rfl rfl rfl (one_nV [_, 1]) rfl) rfl rfl fun _ hp st => ?_
          simp only [List.set_cons_zero] at st
          refine XR_nil ?_
          refine X_ret (.cons (RV_agg rfl rfl rfl (st.cells 0 rfl)) .nil) ?_
          rw [hP, if_neg (by omega), if_neg (by omega), if_neg (by omega)]
          exact ⟨rfl, st.low⟩
    · have h28 := h
      refine XR_no rfl rfl ?_
      refine XR_no rfl rfl ?_
      refine XR_a (op_pick_f rfl rfl) rfl rfl ?_
      refine XR_a (op_assign rfl) rfl rfl ?_
      refine XR_nil ?_
      refine X_else rfl ?_
      refine X_seq ?_
      refine X_draw byKind (by kernel_rfl) (by kernel_rfl) ?_
      refine XR_a (op_move rfl) rfl rfl ?_
      refine XR_a (op_gtr rfl rfl) rfl rfl ?_
      refine XR_a (op_move rfl) rfl rfl ?_
      refine XR_if 37 rfl (fun h => ?_) (fun h => ?_)
      · have h37 := h
        refine XR_a (op_move rfl) rfl rfl ?_
        refine XR_a (op_move rfl) rfl rfl ?_
        first | refine XR_a (op_index1 rfl rfl rfl (by omega)) rfl rfl ?_ | refine XR_a (op_index rfl rfl rfl (by omega)) rfl rfl ?_
        refine XR_a (op_ld (hcx a ha) rfl rfl rfl) rfl rfl ?_
        refine XR_a (op_move rfl) rfl rfl ?_
        refine XR_a (op_move rfl) rfl rfl ?_
        first | refine XR_a (op_subN (n := 1) rfl rfl (by omega) (by simp only [inK]; omega)) rfl rfl ?_ | refine XR_a (op_subI rfl rfl (by simp only [inK]; omega)) rfl rfl ?_ | refine XR_a (op_sub rfl rfl) rfl rfl ?_
        refine XR_a (op_index1 (i := a - 1) rfl rfl rfl (by omega)) rfl rfl ?_
        refine XR_a (op_ld (hcx (a - 1) (by omega)) rfl rfl rfl) rfl rfl ?_
        refine XR_a (op_eql rfl rfl) rfl rfl ?_
        refine XR_a (op_pick_t rfl rfl) rfl rfl ?_
        refine XR_a (op_move rfl) rfl rfl ?_
        refine XR_if 49 rfl (fun h => ?_) (fun h => ?_)
        · have h49 := h
          refine XR_a (op_move rfl) rfl rfl ?_
          refine XR_a (op_geq rfl rfl) rfl rfl ?_
          refine XR_a (op_pick_t rfl rfl) rfl rfl ?_
          refine XR_a (op_assign rfl) rfl rfl ?_
          refine XR_nil ?_
          refine X_if rfl (fun h => ?_) (fun h => ?_)
          · refine X_seq ?_
            refine X_reg ?_
            refine XR_a (op_move rfl) rfl rfl ?_
            refine XR_a (op_min2 rfl rfl) rfl rfl ?_
            refine XR_as (nV (min r 6)) (congrArg (Value.int .i64) (by omega)) ?_
            refine XR_a (op_build (ps := [(0, nV 16), (1, nV (min r 6))]) (cs := #[nV 16, nV (min r 6)]) rfl rfl) rfl rfl ?_
            refine XR_wn (opl_store_whole (us := [nV 16, nV (min r 6)]) st 0 rfl rfl rfl rfl rfl (one_nV [16, _]) rfl) rfl rfl fun _ hp st => ?_
            simp only [List.set_cons_zero] at st
            refine XR_nil ?_
            refine X_ret (.cons (RV_agg rfl rfl rfl (st.cells 0 rfl)) .nil) ?_
            rw [hP, if_neg (by omega), if_neg (by omega), if_pos (by omega)]
            exact ⟨rfl, st.low⟩
          · have h3 := h
            refine X_skip ?_
            refine X_blk ?_
            refine X_seq ?_
            refine X_reg ?_
            refine XR_a (op_move rfl) rfl rfl ?_
            refine XR_a (op_move rfl) rfl rfl ?_
            first | refine XR_a (op_index1 rfl rfl rfl (by omega)) rfl rfl ?_ | refine XR_a (op_index rfl rfl rfl (by omega)) rfl rfl ?_
            refine XR_a (op_ld (hcx a ha) rfl rfl rfl) rfl rfl ?_
            refine XR_a (op_build (ps := [(0, nV (l.getD a 0)), (1, nV 1)]) (cs := #[nV (l.getD a 0), nV 1]) rfl rfl) rfl rfl ?_
            refine XR_wn (opl_store_whole (us := [nV (l.getD a 0), nV 1]) st 0 rfl rfl rfl rfl rfl (one_nV [_, 1]) rfl) rfl rfl fun _ hp st => ?_
            simp only [List.set_cons_zero] at st
            refine XR_nil ?_
            refine X_ret (.cons (RV_agg rfl rfl rfl (st.cells 0 rfl)) .nil) ?_
            rw [hP, if_neg (by omega), if_neg (by omega), if_neg (by omega)]
            exact ⟨rfl, st.low⟩
        · have h49 := h
          refine XR_no rfl rfl ?_
          refine XR_no rfl rfl ?_
          refine XR_a (op_pick_f rfl rfl) rfl rfl ?_
          refine XR_a (op_assign rfl) rfl rfl ?_
          refine XR_nil ?_
          refine X_else rfl ?_
          refine X_skip ?_
          refine X_blk ?_
          refine X_seq ?_
          refine X_reg ?_
          refine XR_a (op_move rfl) rfl rfl ?_
          refine XR_a (op_move rfl) rfl rfl ?_
          first | refine XR_a (op_index1 rfl rfl rfl (by omega)) rfl rfl ?_ | refine XR_a (op_index rfl rfl rfl (by omega)) rfl rfl ?_
          refine XR_a (op_ld (hcx a ha) rfl rfl rfl) rfl rfl ?_
          refine XR_a (op_build (ps := [(0, nV (l.getD a 0)), (1, nV 1)]) (cs := #[nV (l.getD a 0), nV 1]) rfl rfl) rfl rfl ?_
          refine XR_wn (opl_store_whole (us := [nV (l.getD a 0), nV 1]) st 0 rfl rfl rfl rfl rfl (one_nV [_, 1]) rfl) rfl rfl fun _ hp st => ?_
          simp only [List.set_cons_zero] at st
          refine XR_nil ?_
          refine X_ret (.cons (RV_agg rfl rfl rfl (st.cells 0 rfl)) .nil) ?_
          rw [hP, if_neg (by omega), if_neg (by omega), if_neg (by omega)]
          exact ⟨rfl, st.low⟩
      · have h37 := h
        refine XR_no rfl rfl ?_
        refine XR_no rfl rfl ?_
        refine XR_no rfl rfl ?_
        refine XR_no rfl rfl ?_
        refine XR_no rfl rfl ?_
        refine XR_no rfl rfl ?_
        refine XR_no rfl rfl ?_
        refine XR_no rfl rfl ?_
        refine XR_no rfl rfl ?_
        refine XR_no rfl rfl ?_
        refine XR_a (op_pick_f rfl rfl) rfl rfl ?_
        refine XR_a (op_move rfl) rfl rfl ?_
        refine XR_no rfl rfl ?_
        refine XR_no rfl rfl ?_
        refine XR_a (op_pick_f rfl rfl) rfl rfl ?_
        refine XR_a (op_assign rfl) rfl rfl ?_
        refine XR_nil ?_
        refine X_else rfl ?_
        refine X_skip ?_
        refine X_blk ?_
        refine X_seq ?_
        refine X_reg ?_
        refine XR_a (op_move rfl) rfl rfl ?_
        refine XR_a (op_move rfl) rfl rfl ?_
        first | refine XR_a (op_index1 rfl rfl rfl (by omega)) rfl rfl ?_ | refine XR_a (op_index rfl rfl rfl (by omega)) rfl rfl ?_
        refine XR_a (op_ld (hcx a ha) rfl rfl rfl) rfl rfl ?_
        refine XR_a (op_build (ps := [(0, nV (l.getD a 0)), (1, nV 1)]) (cs := #[nV (l.getD a 0), nV 1]) rfl rfl) rfl rfl ?_
        refine XR_wn (opl_store_whole (us := [nV (l.getD a 0), nV 1]) st 0 rfl rfl rfl rfl rfl (one_nV [_, 1]) rfl) rfl rfl fun _ hp st => ?_
        simp only [List.set_cons_zero] at st
        refine XR_nil ?_
        refine X_ret (.cons (RV_agg rfl rfl rfl (st.cells 0 rfl)) .nil) ?_
        rw [hP, if_neg (by omega), if_neg (by omega), if_neg (by omega)]
        exact ⟨rfl, st.low⟩
theorem rparts_spec {n c : Nat} {A : Option Addr} {h0 : Heap} : Ret Try.prog 133 [.slice A n c] h0 fun v h' => ∃ p, v = .func (.func 165) #[] #[.pointer (some ⟨p, 0, none⟩)] ∧ St h0.size h0 h' [pt p 25 [.slice A n c]] := by
  refine ret_of_X Try.func133 rfl rfl fun w0 hw0 => ?_
  simp only [argE, Nat.zero_add, Nat.reduceAdd]
  have st := St.start h0
  refine X_seq ?_
  refine X_reg ?_
  refine XR_wa (opl_bx rfl rfl) rfl rfl rfl ?_
  rintro _ hp ⟨p, rfl, hnew⟩
  replace st := st.new hnew
  refine XR_a (op_assign rfl) rfl rfl ?_
  refine XR_nil ?_
  refine X_seq ?_
  refine X_reg ?_
  refine XR_a (op_mkFunc rfl) rfl rfl ?_
  refine XR_a (op_assign rfl) rfl rfl ?_
  refine XR_nil ?_
  refine X_ret (.cons (.tmp rfl) .nil) ?_
  exact ⟨_, rfl, st⟩
theorem parts_iter {B y p n c : Nat} {A : Option Addr} {l : List Nat} {F : List Res} {h0 : Heap} (JR : List (Nat × Nat) → List Res) (st0 : St B h0 h0 (pt p 25 [.slice A n c] :: (JR [] ++ F)))
    (hr : ∀ h' rs, St B h0 h' (rs ++ F) → Rd h' A (l.map nV)) (hl : l.length = n) (hn : n ≤ 1048576)
    (hround : ∀ (s : List (Nat × Nat)) (x : Nat × Nat) (r : List (Nat × Nat)) (F' : List Res) (h : Heap), Low B h0 h → s ++ x :: r = partsL l 0 → St B h h (JR s ++ F') → RRet Try.prog y [.agg (pC2 x).toArray] h fun u h' => u = .bool true ∧ St B h h' (JR (s ++ [x]) ++ F')) :
    Ret Try.prog 165 [.func (.yield y) #[] #[], .pointer (some ⟨p, 0, none⟩)] h0 fun _ h' => St B h0 h' (JR (partsL l 0) ++ F) := by
  refine ret_of_X Try.func165 rfl rfl fun w0 hw0 => ?_
  simp only [argE, Nat.zero_add, Nat.reduceAdd]
  refine X_seq ?_
  refine X_reg ?_
  refine XR_a (op_assign rfl) rfl rfl ?_
  refine XR_nil ?_
  refine X_block ?_
  refine X_loop (fun s => n - s.1) (fun s => [(0, .func (.yield y) #[] #[]), (1, .pointer (some ⟨p, 0, none⟩)), (3, nV s.1)])
    (fun (s : Nat × List (Nat × Nat)) hp => s.1 ≤ n ∧ s.2 ++ partsL l s.1 = partsL l 0 ∧ St B h0 hp (pt p 25 [.slice A n c] :: (JR s.2 ++ F)))
    (0, []) (.cons rfl (.cons rfl (.cons rfl (.nil _)))) ⟨Nat.zero_le _, rfl, st0⟩ ?_
  rintro ⟨a, s⟩ hp ⟨ha, hs, st⟩
  simp only at ha hs st ⊢
  refine X_seq ?_
  refine X_seq ?_
  refine X_reg ?_
  refine XR_a (op_move rfl) rfl rfl ?_
  refine XR_a (op_ld (st.cell 0 (i := 0) rfl rfl) rfl rfl rfl) rfl rfl ?_
  refine XR_a (op_len rfl rfl rfl) rfl rfl ?_
  refine XR_a (op_lss rfl rfl) rfl rfl ?_
  refine XR_nil ?_
  refine X_if rfl (fun h => ?_) (fun h => ?_)
  · have hpm := partAt_many (l := l) (at_ := a) (by omega)
    have hrl := runAt_le l a
    rw [partsL_cons (by omega)] at hs
    refine X_skip ?_
    refine X_block ?_
    refine X_seq ?_
    refine X_reg ?_
    refine XR_a (op_ld (st.cell 0 (i := 0) rfl rfl) rfl rfl rfl) rfl rfl ?_
    refine XR_a (op_move rfl) rfl rfl ?_
    refine XR_wa (opl_call (rpart_spec (hr hp (pt p 25 [.slice A n c] :: JR s) st) hl (by omega) (by omega)) rfl (by kernel_rfl)) rfl rfl rfl ?_
    rintro _ hp2 ⟨rfl, hx2⟩
    replace st := st.ext hx2
    obtain ⟨x, hx⟩ : ∃ x, partAt l a = x := ⟨_, rfl⟩
    rw [hx] at hs hpm ⊢
    refine XR_wa (opl_new rfl) rfl rfl rfl ?_
    rintro _ hp ⟨p4, rfl, hnew⟩
    replace st := st.new hnew
    refine XR_wn (opl_store_whole (us := pC2 x) st 0 rfl rfl rfl rfl rfl (one_pC2 x) rfl) rfl rfl fun _ hp st => ?_
    simp only [List.set_cons_zero] at st
    have st3 := st.perm (List.perm_append_comm_assoc [pt p4 189 (pC2 x), pt p 25 [.slice A n c]] (JR s) F)
    refine XR_nil ?_
    refine X_seq ?_
    refine X_seq ?_
    refine X_reg ?_
    refine XR_a (op_move rfl) rfl rfl ?_
    refine XR_a (op_ldA (vs := pC2 x) (st.cells 0 rfl) rfl rfl rfl rfl) rfl rfl ?_
    refine XR_ya (opy_yield rfl (hround s x _ _ _ st3.low hs st3.here) rfl) rfl rfl rfl ?_
    rintro _ hp3 ⟨rfl, st4⟩
    replace st := (st3.trans st4).perm (List.perm_append_comm_assoc (JR (s ++ [x])) [pt p4 189 (pC2 x), pt p 25 [.slice A n c]] F)
    first | refine XR_a (op_notd rfl) rfl rfl ?_ | refine XR_a (op_not rfl) rfl rfl ?_
    refine XR_nil ?_
    refine X_else rfl ?_
    refine X_skip ?_
    refine X_reg ?_
    refine XR_a (op_move rfl) rfl rfl ?_
    first | refine XR_a (op_field0 rfl rfl) rfl rfl ?_ | refine XR_a (op_fieldn rfl rfl) rfl rfl ?_
    refine XR_a (op_ld (st.cell 0 (i := 1) rfl rfl) rfl rfl rfl) rfl rfl ?_
    first | refine XR_a (op_addN rfl rfl (by simp only [inK]; omega)) rfl rfl ?_ | refine XR_a (op_addI rfl rfl (by simp only [inK]; omega)) rfl rfl ?_ | refine XR_a (op_add rfl rfl) rfl rfl ?_
    refine XR_a (op_assign rfl) rfl rfl ?_
    refine XR_nil ?_
    refine X_blk ?_
    exact X_again (a + x.2, s ++ [x]) (.cons rfl (.cons rfl (.cons rfl (.nil _)))) ⟨by simp only; omega, by simp only; rw [List.append_assoc]; exact hs, st.tail⟩ (by simp only; omega)
  · refine X_exit rfl ?_
    refine X_end .nil ?_
    rw [partsL_end (by omega), List.append_nil] at hs
    rw [← hs]
    exact st.tail
theorem right1_runs (x : Int) (h0 : Heap) : Ret Try.prog 164 [.int .i64 x] h0 fun v h' => v = .bool (decide (x < 0 ∨ 15 < x)) ∧ h0 = h' := by
  refine ret_of_X Try.func164 rfl rfl fun w0 hw0 => ?_
  simp only [argE, Nat.zero_add, Nat.reduceAdd]
  refine X_seq ?_
  refine X_reg ?_
  refine XR_a (op_assign rfl) rfl rfl ?_
  refine XR_nil ?_
  refine X_seq ?_
  refine X_reg ?_
  refine XR_a (op_move rfl) rfl rfl ?_
  refine XR_a (op_lss rfl rfl) rfl rfl ?_
  refine XR_a (op_move rfl) rfl rfl ?_
  refine XR_if 5 rfl (fun h => ?_) (fun h => ?_)
  · refine XR_no rfl rfl ?_
    refine XR_no rfl rfl ?_
    refine XR_a (op_pick_t rfl rfl) rfl rfl ?_
    refine XR_a (op_assign rfl) rfl rfl ?_
    refine XR_nil ?_
    refine X_ret (.cons (.tmp rfl) .nil) ?_
    first
      | exact ⟨congrArg Value.bool (decide_eq_true (by omega)).symm, rfl⟩
      | exact ⟨congrArg Value.bool (decide_eq_decide.2 ⟨fun hh => by omega, fun hh => by omega⟩), rfl⟩
  · refine XR_a (op_move rfl) rfl rfl ?_
    refine XR_a (op_gtr rfl rfl) rfl rfl ?_
    refine XR_a (op_pick_f rfl rfl) rfl rfl ?_
    refine XR_a (op_assign rfl) rfl rfl ?_
    refine XR_nil ?_
    refine X_ret (.cons (.tmp rfl) .nil) ?_
    first
      | exact ⟨congrArg Value.bool (decide_eq_true (by omega)).symm, rfl⟩
      | exact ⟨congrArg Value.bool (decide_eq_decide.2 ⟨fun hh => by omega, fun hh => by omega⟩), rfl⟩
theorem rright_spec {n c : Nat} {A : Option Addr} {li : List Int} {h0 : Heap} (hr : Rd h0 A (li.map iV)) (hl : li.length = n) (hn : n ≤ 17592186044416) :
    Ret Try.prog 132 [.slice A n c] h0 fun v h' => v = .bool (decide (∀ x ∈ li, 0 ≤ x ∧ x ≤ 15)) ∧ h0 = h' := by
  refine ret_of_X Try.func132 rfl rfl fun w0 hw0 => ?_
  simp only [argE, Nat.zero_add, Nat.reduceAdd]
  refine X_seq ?_
  refine X_reg ?_
  refine XR_a (op_assign rfl) rfl rfl ?_
  refine XR_nil ?_
  refine X_seq ?_
  refine X_reg ?_
  refine XR_a (op_move rfl) rfl rfl ?_
  refine XR_wa (opl_call (containsFunc_spec (q := fun x => decide (x < 0 ∨ 15 < x)) (by kernel_rfl) hr hl hn (fun x _ => right1_runs x _)) rfl (by kernel_rfl)) rfl rfl rfl ?_
  rintro _ _ ⟨rfl, rfl⟩
  refine XR_a (op_not rfl) rfl rfl ?_
  rw [any_out]
  refine XR_a (op_assign rfl) rfl rfl ?_
  refine XR_nil ?_
  refine X_ret (.cons (.tmp rfl) .nil) ?_
  exact ⟨rfl, rfl⟩
theorem partsF_len (l : List Nat) : ∀ f a, (partsF l f a).length ≤ f
  | 0, _ => Nat.le_refl _
  | f + 1, a => by
    rw [partsF]
    split
    · have := partsF_len l f (a + (partAt l a).2)
      simp; omega
    · simp
theorem partsL_len (l : List Nat) : (partsL l 0).length ≤ l.length := by
  have := partsF_len l (l.length - 0) 0
  unfold partsL; omega
end Go.Bn
end

section
set_option linter.unusedVariables false
set_option linter.unusedSimpArgs false
namespace Go.Bn
def pcnt (s : List (Nat × Nat)) : List Nat := (List.range 19).map fun k => (s.map (·.1)).count k
theorem pcnt_len (s : List (Nat × Nat)) : (pcnt s).length = 19 := by simp [pcnt]
theorem pcnt_nil : pcnt [] = List.replicate 19 0 := by decide
theorem pcnt_get {s : List (Nat × Nat)} {x : Nat} (hx : x < 19) : (pcnt s)[x]? = some ((s.map (·.1)).count x) := by unfold pcnt; simp [hx]
theorem pcnt_set {s : List (Nat × Nat)} (x : Nat × Nat) : (pcnt s).set x.1 ((s.map (·.1)).count x.1 + 1) = pcnt (s ++ [x]) := by
  refine List.ext_getElem (by simp [pcnt]) fun i h1 h2 => ?_
  rw [List.getElem_set]
  by_cases h : x.1 = i
  · rw [if_pos h]
    simp only [pcnt, List.getElem_map, List.getElem_range]
    rw [List.map_append, List.count_append, h]; simp [h]
  · rw [if_neg h]
    simp only [pcnt, List.getElem_map, List.getElem_range]
    rw [List.map_append, List.count_append]
    have : ([x].map (·.1)).count i = 0 := by
      simp only [List.map_cons, List.map_nil]
      rw [List.count_singleton, beq_eq_false_iff_ne.2 h]; rfl
    rw [this, Nat.add_zero]
theorem pcnt_le (s : List (Nat × Nat)) : ∀ y ∈ pcnt s, y ≤ s.length := by
  intro y hy
  obtain ⟨k, _, rfl⟩ := List.mem_map.1 hy
  have := List.count_le_length (a := k) (l := s.map (·.1))
  rwa [List.length_map] at this
theorem partsF_mem {l : List Nat} (hb : ∀ x ∈ l, x ≤ 15) : ∀ f a, ∀ x ∈ partsF l f a, x.1 < 19 ∧ rL x.1 ≤ x.2 ∧ x.2 ≤ rH x.1
  | 0, _, x, h => by simp [partsF] at h
  | f + 1, a, x, h => by
    rw [partsF] at h
    split at h
    · rename_i ha
      rcases List.mem_cons.1 h with rfl | h
      · have := partAt_fits hb ha; exact ⟨this.1, this.2.1, this.2.2.1⟩
      · exact partsF_mem hb f _ x h
    · simp at h
theorem partsL_mem {l : List Nat} (hb : ∀ x ∈ l, x ≤ 15) : ∀ x ∈ partsL l 0, x.1 < 19 ∧ rL x.1 ≤ x.2 ∧ x.2 ≤ rH x.1 := partsF_mem hb _ _
noncomputable def plens (l : List Nat) : List Nat := lensW (pcnt (partsL l 0))
theorem plens_len (l : List Nat) : (plens l).length = 19 := by unfold plens; rw [lensW_length, pcnt_len]
theorem plens_pos {l : List Nat} (hb : ∀ x ∈ l, x ≤ 15) {x : Nat × Nat} (hx : x ∈ partsL l 0) : (plens l).getD x.1 0 ≠ 0 := by
  have h19 := (partsL_mem hb x hx).1
  have hc : 0 < ((partsL l 0).map (·.1)).count x.1 := List.count_pos_iff.2 (List.mem_map_of_mem hx)
  have hw : wkey (pcnt (partsL l 0)) x.1 = ((partsL l 0).map (·.1)).count x.1 := by unfold wkey; rw [List.getD, pcnt_get h19]; rfl
  have hm : x.1 ∈ syms (pcnt (partsL l 0)) := mem_syms.2 ⟨by rw [pcnt_len]; exact h19, by rw [hw]; exact hc⟩
  unfold plens
  rw [lensW_get (by rw [pcnt_len]; exact h19)]
  have := lenW_pos (ws := pcnt (partsL l 0)) (by rw [pcnt_len]; decide) hm
  omega
theorem plens_ok {l : List Nat} (hb : ∀ x ∈ l, x ≤ 15) (h1 : 1 ≤ l.length) : lensOK (plens l) := by
  have hx : partAt l 0 ∈ partsL l 0 := by rw [partsL_cons (by omega)]; exact List.mem_cons_self
  have hs : 1 ≤ (syms (pcnt (partsL l 0))).length := by
    have h19 := (partsL_mem hb _ hx).1
    have hc : 0 < ((partsL l 0).map (·.1)).count (partAt l 0).1 := List.count_pos_iff.2 (List.mem_map_of_mem hx)
    have hw : wkey (pcnt (partsL l 0)) (partAt l 0).1 = ((partsL l 0).map (·.1)).count (partAt l 0).1 := by unfold wkey; rw [List.getD, pcnt_get h19]; rfl
    exact List.length_pos_of_mem (mem_syms.2 ⟨by rw [pcnt_len]; exact h19, by rw [hw]; exact hc⟩)
  refine ⟨by rw [plens_len]; decide, by rw [plens_len]; decide, lensW_le _, ?_⟩
  rcases Nat.lt_or_ge 1 (syms (pcnt (partsL l 0))).length with h | h
  · exact .inl (lensW_kraft h (by rw [pcnt_len]; decide))
  · exact .inr (lensW_one (by omega) (by rw [pcnt_len]; decide))
def partBits (lens : List Nat) (x : Nat × Nat) : List Bool := codeBits (val lens x.1) (lens.getD x.1 0) ++ bitsN (rW x.1) (x.2 - rL x.1)
theorem partBits_len {lens : List Nat} (h : lensOK lens) (x : Nat × Nat) : (partBits lens x).length ≤ 22 := by
  unfold partBits
  rw [List.length_append, codeBits_length, bitsN_length]
  have h1 := rW_le x.1
  have h2 : lens.getD x.1 0 ≤ 15 := by
    rcases Nat.lt_or_ge x.1 lens.length with h3 | h3
    · rw [getD_eq h3]; exact h.2.2.1 _ (List.getElem_mem h3)
    · simp [List.getD, h3]
  omega
theorem flat_bd {α : Type} (f : α → List Bool) (b : Nat) (hf : ∀ x, (f x).length ≤ b) : ∀ s : List α, (s.flatMap f).length ≤ s.length * b
  | [] => by simp
  | x :: s => by
    have := flat_bd f b hf s
    have := hf x
    rw [List.flatMap_cons, List.length_append, List.length_cons, Nat.add_mul]; omega
noncomputable def putHead (l : List Nat) (i : Nat) : List Bool := bitsN 9 l.length ++ ((plens l).take i).flatMap (bitsN 4)
noncomputable def putR (l : List Nat) : List Bool := putHead l 19 ++ (partsL l 0).flatMap (partBits (plens l))
theorem putHead_len (l : List Nat) (i : Nat) : (putHead l i).length ≤ 9 + 76 := by
  unfold putHead
  have := flat_bd (bitsN 4) 4 (fun x => by rw [bitsN_length]; exact Nat.le_refl _) ((plens l).take i)
  rw [List.length_take, plens_len] at this
  rw [List.length_append, bitsN_length]
  omega
theorem putHead_succ {l : List Nat} {i : Nat} (hi : i < 19) : putHead l (i + 1) = putHead l i ++ bitsN 4 ((plens l).getD i 0) := by
  unfold putHead
  rw [take_snoc (by rw [plens_len]; exact hi), List.flatMap_append, List.append_assoc]; simp
end Go.Bn
set_option linter.unusedVariables false
set_option linter.unusedSimpArgs false
namespace Go.Bn
open Go
section
variable {c : Cx} {k : List SItem} {E : Env} {hp : Heap}
theorem post_mark2 {vs : List Value} {a : Act} {w : World} {D : List Deferred} {d e : Nat} (hD : D = [mark d, mark e]) (hd : hp[d]? = some (.deferred (some []))) (he : (shutH hp d)[e]? = some (.deferred (some []))) (h : RVs c.P (shutH (shutH hp d) e) E c.fn.results.toList vs) (hΦ : c.Φ (retVal vs) (shutH (shutH hp d) e)) (ho : OK c.fn.ntmps E a) (hi : Inv c.w0 w) (hw : w.heap = hp) :
    LeavesInM Fence.wide 0 c.P c.fn a.tmps c.R D .returning w := by
  subst hD
  have hh1 : (w.putObj d (.deferred none)).heap = shutH hp d := by rw [← hw]; rfl
  have ht : (Instr.takeDeferred d).run c.P w = .ok [] (w.putObj d (.deferred none)) := run_takeDeferred (by rw [hw]; exact hd)
  have ht2 : (Instr.takeDeferred e).run c.P (w.putObj d (.deferred none)) = .ok [] ((w.putObj d (.deferred none)).putObj e (.deferred none)) := run_takeDeferred (by rw [hh1]; exact he)
  refine ⟨by simp, .inl ⟨d, w.putObj d (.deferred none), rfl, ht, ?_⟩⟩
  refine ⟨by simp, .inl ⟨e, (w.putObj d (.deferred none)).putObj e (.deferred none), rfl, ht2, ?_⟩⟩
  have hh : ((w.putObj d (.deferred none)).putObj e (.deferred none)).heap = shutH (shutH hp d) e := by rw [← hw]; rfl
  exact ⟨retVal vs, results_run ho hh h, retVal vs, rfl, ⟨hi.os, hi.tape, hi.output⟩, by rw [hh]; exact hΦ⟩
attribute [local semireducible] X in
theorem X_retM2 {vs : List Value} {d e : Nat} (h : RVs c.P (shutH (shutH hp d) e) E c.fn.results.toList vs) (hΦ : c.Φ (retVal vs) (shutH (shutH hp d) e)) (hd : hp[d]? = some (.deferred (some []))) (he : (shutH hp d)[e]? = some (.deferred (some []))) (hB : c.B = bodyPostM Fence.wide 0 c.P c.fn c.R := by rfl) (hD : c.D = [mark d, mark e] := by rfl) : X c (.code .ret :: k) E hp := fun a w ho hi hw => by
  refine wpIn_ret (SQ_ret ?_ k)
  rw [hB]
  exact post_mark2 (ho.2.trans hD) hd he h hΦ ho.1 hi hw
end
end Go.Bn
end

section
namespace Go.Bn
theorem lensW_ok {ws : List Nat} (h1 : 1 ≤ ws.length) (h2 : ws.length ≤ 320) (hs : (syms ws).length ≠ 0) : lensOK (lensW ws) := by
  refine ⟨by rw [lensW_length]; exact h1, by rw [lensW_length]; exact h2, lensW_le ws, ?_⟩
  by_cases h : (syms ws).length = 1
  · exact .inr (lensW_one h (by omega))
  · exact .inl (lensW_kraft (by omega) (by omega))
theorem rightC_cast {ls : List Nat} (h : lensOK ls) : rightC (castI ls) := by
  obtain ⟨h1, h2, h3, h4⟩ := h
  refine ⟨by unfold castI; rw [List.length_map]; exact h1, ⟨by unfold castI; rw [List.length_map]; exact h2, fun x hx => ?_⟩, by rw [castI_toNat]; exact h4⟩
  obtain ⟨y, hy, rfl⟩ := List.mem_map.1 hx
  have := h3 y hy
  omega
theorem addAt_ge (l : List Nat) (i j : Nat) : l.getD j 0 ≤ (addAt l i).getD j 0 := by
  unfold addAt
  rw [List.getD_eq_getElem?_getD, List.getD_eq_getElem?_getD, List.getElem?_set]
  split
  · rename_i h
    subst h
    split
    · rw [List.getD_eq_getElem?_getD]; simp
    · rw [List.getElem?_eq_none (by omega)]; simp
  · exact Nat.le_refl _
theorem addAt_pos {l : List Nat} {i : Nat} (h : i < l.length) : 0 < (addAt l i).getD i 0 := by
  unfold addAt
  rw [List.getD_eq_getElem?_getD, List.getElem?_set, if_pos rfl, if_pos h]
  simp
theorem foldW_first (ys : List Sy) : 0 < (foldW ys).1.getD 256 0 := by
  suffices h : ∀ (ys : List Sy) (s : List Nat × List Nat × Nat), 0 < s.1.getD 256 0 → 0 < (ys.foldl stepW s).1.getD 256 0 from h ys startW (by decide +kernel)
  intro ys
  induction ys with
  | nil => intro s h; exact h
  | cons y ys ih =>
    intro s h
    rw [List.foldl_cons]
    exact ih _ (Nat.lt_of_lt_of_le h (addAt_ge s.1 y.a.num.toNat 256))
theorem firstW_syms (ys : List Sy) : (syms (firstW ys)).length ≠ 0 := by
  have h : 256 ∈ syms (firstW ys) := mem_syms.2 ⟨by unfold firstW; rw [(foldW_ok ys).1]; decide, foldW_first ys⟩
  have := List.length_pos_of_mem h
  omega
theorem foldW_second {ys : List Sy} (hb : ∀ y ∈ ys, y.b.num.toNat < 30) : (foldW ys).2.2 = 0 ∨ ∃ i, i < 30 ∧ 0 < (foldW ys).2.1.getD i 0 := by
  suffices h : ∀ (ys : List Sy), (∀ y ∈ ys, y.b.num.toNat < 30) → ∀ (s : List Nat × List Nat × Nat), s.2.1.length = 30 → (s.2.2 = 0 ∨ ∃ i, i < 30 ∧ 0 < s.2.1.getD i 0) → ((ys.foldl stepW s).2.2 = 0 ∨ ∃ i, i < 30 ∧ 0 < (ys.foldl stepW s).2.1.getD i 0) from h ys hb startW (by decide +kernel) (.inl rfl)
  intro ys
  induction ys with
  | nil => intro _ s _ h; exact h
  | cons y ys ih =>
    intro hb s hl h
    rw [List.foldl_cons]
    have hy := hb y List.mem_cons_self
    refine ih (fun z hz => hb z (List.mem_cons_of_mem _ hz)) _ ?_ ?_
    · simp only [stepW]; split
      · rw [addAt_length]; exact hl
      · exact hl
    · simp only [stepW]
      by_cases hm : y.m = true
      · rw [if_pos hm, if_pos hm]
        exact .inr ⟨_, hy, addAt_pos (by omega)⟩
      · rw [if_neg hm, if_neg hm]; exact h
theorem secondW_len (ys : List Sy) : (secondW ys).length = 30 := by
  unfold secondW
  split
  · rw [List.length_set]; exact (foldW_ok ys).2.1
  · exact (foldW_ok ys).2.1
theorem firstW_len (ys : List Sy) : (firstW ys).length = 273 := (foldW_ok ys).1
theorem secondW_syms {ys : List Sy} (hb : ∀ y ∈ ys, y.b.num.toNat < 30) : (syms (secondW ys)).length ≠ 0 := by
  have h : ∃ i, i ∈ syms (secondW ys) := by
    by_cases h0 : (foldW ys).2.2 = 0
    · refine ⟨0, mem_syms.2 ⟨by rw [secondW_len]; decide, ?_⟩⟩
      unfold wkey secondW
      rw [if_pos h0, List.getD_eq_getElem?_getD, List.getElem?_set, if_pos rfl, if_pos (by rw [(foldW_ok ys).2.1]; decide)]
      exact Nat.zero_lt_one
    · rcases foldW_second hb with h1 | ⟨i, h1, h2⟩
      · exact absurd h1 h0
      · refine ⟨i, mem_syms.2 ⟨by rw [secondW_len]; exact h1, ?_⟩⟩
        unfold wkey secondW
        rw [if_neg h0]; exact h2
  obtain ⟨i, h⟩ := h
  have := List.length_pos_of_mem h
  omega
theorem firstW_le (ys : List Sy) : ∀ x ∈ firstW ys, x ≤ 1 + ys.length := fun x hx => Nat.le_trans (le_sum hx) (foldW_ok ys).2.2.1
theorem secondW_le (ys : List Sy) : ∀ x ∈ secondW ys, x ≤ 1 + ys.length := fun x hx => by
  unfold secondW at hx
  split at hx
  · rcases List.mem_or_eq_of_mem_set hx with h | h
    · have := Nat.le_trans (le_sum h) (foldW_ok ys).2.2.2.1; omega
    · omega
  · have := Nat.le_trans (le_sum hx) (foldW_ok ys).2.2.2.1; omega
def symB (ls : List Nat) (c : Kls) : List Bool := codeBits (val ls c.num.toNat) (lenAt ls c.num) ++ bitsN (wd 32 c.bits) c.ext.toNat
def syB (la lb : List Nat) (y : Sy) : List Bool := symB la y.a ++ (if y.m = true then symB lb y.b else [])
noncomputable def lA (ys : List Sy) : List Nat := lensW (firstW ys)
noncomputable def lB (ys : List Sy) : List Nat := lensW (secondW ys)
noncomputable def blockB (ys : List Sy) : List Bool := putR (lA ys) ++ putR (lB ys) ++ ys.flatMap (syB (lA ys) (lB ys)) ++ codeBits (val (lA ys) 256) (lenAt (lA ys) 256)
theorem lA_ok (ys : List Sy) : lensOK (lA ys) := lensW_ok (by rw [firstW_len]; decide) (by rw [firstW_len]; decide) (firstW_syms ys)
theorem lB_ok {ys : List Sy} (hb : ∀ y ∈ ys, y.b.num.toNat < 30) : lensOK (lB ys) := lensW_ok (by rw [secondW_len]; decide) (by rw [secondW_len]; decide) (secondW_syms hb)
theorem putR_len {l : List Nat} (h : lensOK l) : (putR l).length ≤ 85 + l.length * 22 := by
  have hok := plens_ok h.2.2.1 h.1
  have h1 := flat_bd (partBits (plens l)) 22 (partBits_len hok) (partsL l 0)
  have h2 := putHead_len l 19
  have h3 := partsL_len l
  have h4 := Nat.mul_le_mul_right 22 h3
  unfold putR
  rw [List.length_append]
  omega
theorem symB_len {ls : List Nat} (h : lensOK ls) (c : Kls) : (symB ls c).length ≤ 47 := by
  unfold symB
  rw [List.length_append, codeBits_length, bitsN_length]
  have h1 := lens_le h c.num
  have h2 : wd 32 c.bits ≤ 32 := wd_le _ _
  omega
theorem syB_len {la lb : List Nat} (ha : lensOK la) (hb : lensOK lb) (y : Sy) : (syB la lb y).length ≤ 94 := by
  unfold syB
  have h1 := symB_len ha y.a
  have h2 := symB_len hb y.b
  rw [List.length_append]
  split
  · omega
  · rw [List.length_nil]; omega
end Go.Bn
end

section
set_option linter.unusedVariables false
set_option linter.unusedSimpArgs false
set_option maxHeartbeats 4000000
set_option maxRecDepth 20000
namespace Go.Bn
open Go Proofs
noncomputable def outAt (ws L : List Nat) : List Nat := (List.range ws.length).map fun s => lvl L ((syms ws).idxOf s)
noncomputable def outIn (ws L : List Nat) (k : Nat) : List Nat := (List.range ws.length).map fun s => lvl L ((syms ws).idxOf s) + if (syms ws).idxOf s < k then 1 else 0
theorem outAt_nil (ws : List Nat) : outAt ws [] = List.replicate ws.length 0 := by
  refine List.ext_getElem (by simp [outAt]) fun i h1 h2 => ?_
  simp [outAt, lvl]
theorem outAt_len (ws L : List Nat) : (outAt ws L).length = ws.length := by simp [outAt]
theorem outIn_zero (ws L : List Nat) : outIn ws L 0 = outAt ws L := by
  unfold outIn outAt
  refine List.map_congr_left fun s _ => ?_
  rw [if_neg (by omega), Nat.add_zero]
theorem lvl_snoc (L : List Nat) (k i : Nat) : lvl (L ++ [k]) i = lvl L i + if i < k then 1 else 0 := by
  unfold lvl
  rw [List.countP_append, List.countP_singleton]; simp
theorem outIn_done (ws L : List Nat) (k : Nat) : outIn ws L k = outAt ws (L ++ [k]) := by
  unfold outIn outAt
  exact List.map_congr_left fun s _ => (lvl_snoc L k _).symm
theorem outIn_len (ws L : List Nat) (k : Nat) : (outIn ws L k).length = ws.length := by simp [outIn]
theorem outIn_get {ws L : List Nat} {k s : Nat} (hs : s < ws.length) : (outIn ws L k)[s]? = some (lvl L ((syms ws).idxOf s) + if (syms ws).idxOf s < k then 1 else 0) := by
  unfold outIn; simp [hs]
theorem outIn_set {ws L : List Nat} {k : Nat} (hk : k < (syms ws).length) : (outIn ws L k).set ((syms ws).getD k 0) (lvl L k + 1) = outIn ws L (k + 1) := by
  refine List.ext_getElem (by simp [outIn]) fun i h1 h2 => ?_
  have hi : i < ws.length := by simpa [outIn] using h2
  rw [List.getElem_set]
  have hx := idxOf_getD hk
  by_cases h : (syms ws).getD k 0 = i
  · rw [if_pos h]
    simp only [outIn, List.getElem_map, List.getElem_range]
    rw [← h, hx, if_pos (by omega)]
  · rw [if_neg h]
    simp only [outIn, List.getElem_map, List.getElem_range]
    congr 1
    have hne : (syms ws).idxOf i ≠ k := fun he => by
      have hl : (syms ws).idxOf i < (syms ws).length := by omega
      have := List.getElem_idxOf hl
      refine h ?_
      rw [getD_eq hk, ← this]
      simp only [he]
    by_cases h3 : (syms ws).idxOf i < k
    · rw [if_pos h3, if_pos (by omega)]
    · rw [if_neg h3, if_neg (by omega)]
theorem outAt_levW (ws : List Nat) : outAt ws (levW ws) = lensW ws := rfl
theorem lensW_zero {ws : List Nat} (h : (syms ws).length = 0) : lensW ws = List.replicate ws.length 0 := by
  rw [← outAt_nil, ← outAt_levW]
  unfold levW; rw [h]; rfl
theorem lensW_single {ws : List Nat} (h : (syms ws).length = 1) : (List.replicate ws.length 0).set ((syms ws).getD 0 0) 1 = lensW ws := by
  rw [← outAt_nil, ← outIn_zero, ← outAt_levW]
  have e := outIn_set (L := []) (show 0 < (syms ws).length by omega)
  rw [show lvl [] 0 + 1 = 1 from rfl] at e
  rw [e, outIn_done]
  unfold levW; rw [h]; rfl
def errW (li : List Int) : Int := if 320 < li.length then 5 else if boundedB 1073741824 li then 0 else 1
noncomputable def lensI (li : List Int) : List Nat := if errW li = 0 then lensW (li.map Int.toNat) else []
theorem errW_zero {li : List Int} : errW li = 0 ↔ boundedB 1073741824 li := by
  unfold errW
  split
  · rename_i h; exact ⟨fun hh => by omega, fun hh => by have := hh.1; omega⟩
  · split <;> simp [*]
theorem lengths_spec {n c : Nat} {A : Option Addr} {li : List Int} {h0 : Heap} (hr : Rd h0 A (li.map iV)) (hl : li.length = n) (hn : n ≤ 17592186044416) :
    Ret Try.prog 95 [.slice A n c] h0 fun v h' => ∃ v1, v = retVal [v1, .int .i64 (errW li)] ∧ St h0.size h0 h' [row 3 1 v1 ((lensI li).map nV)] := by
  refine ret_of_X Try.func95 rfl rfl fun w0 hw0 => ?_
  simp only [argE, Nat.zero_add, Nat.reduceAdd]
  refine X_seq ?_
  refine X_reg ?_
  refine XR_a (op_assign rfl) rfl rfl ?_
  refine XR_a (op_assign rfl) rfl rfl ?_
  refine XR_nil ?_
  refine X_seq ?_
  refine X_block ?_
  refine X_seq ?_
  refine X_reg ?_
  refine XR_a (op_move rfl) rfl rfl ?_
  refine XR_a (op_len rfl rfl rfl) rfl rfl ?_
  refine XR_a (op_gtr rfl rfl) rfl rfl ?_
  refine XR_a (op_assign rfl) rfl rfl ?_
  refine XR_nil ?_
  refine X_if rfl (fun h => ?_) (fun h => ?_)
  · refine X_seq ?_
    refine X_reg ?_
    refine XR_a (op_assign rfl) rfl rfl ?_
    refine XR_a (op_assign rfl) rfl rfl ?_
    refine XR_nil ?_
    refine X_ret (.cons (.tmp rfl) (.cons (.tmp rfl) .nil)) ?_
    have he : errW li = 5 := by unfold errW; rw [if_pos (by omega)]
    refine ⟨_, by rw [he], ?_⟩
    unfold lensI
    rw [he, if_neg (by omega)]
    exact ((St.start h0).nilrow 3 1)
  · refine X_seq ?_
    refine X_reg ?_
    refine XR_a (op_move rfl) rfl rfl ?_
    refine XR_wa (opl_call (wright_spec 1073741824 hr hl hn) rfl (by kernel_rfl)) rfl rfl rfl ?_
    rintro _ hp ⟨rfl, hx⟩
    first | refine XR_a (op_notd rfl) rfl rfl ?_ | refine XR_a (op_not rfl) rfl rfl ?_
    refine XR_a (op_assign rfl) rfl rfl ?_
    refine XR_nil ?_
    refine X_if rfl (fun h => ?_) (fun h => ?_)
    · refine X_seq ?_
      refine X_reg ?_
      refine XR_a (op_assign rfl) rfl rfl ?_
      refine XR_a (op_assign rfl) rfl rfl ?_
      refine XR_nil ?_
      refine X_ret (.cons (.tmp rfl) (.cons (.tmp rfl) .nil)) ?_
      have he : errW li = 1 := by unfold errW; rw [if_neg (by omega), if_neg h]
      refine ⟨_, by rw [he], ?_⟩
      unfold lensI
      rw [he, if_neg (by omega)]
      exact (((St.start h0).ext hx).nilrow 3 1)
    · have hR : boundedB 1073741824 li := Decidable.not_not.1 h
      have he0 := errW_zero.2 hR
      have hlens : lensI li = lensW (li.map Int.toNat) := by unfold lensI; rw [if_pos he0]
      rw [hlens, he0]
      have hr2 : Rd h0 A ((li.map Int.toNat).map nV) := by rw [nV_iV, toNat_map fun x hx => (hR.2 x hx).1]; exact hr
      have hwb : ∀ s, wkey (li.map Int.toNat) s ≤ 1073741824 := fun s => by
        unfold wkey
        rcases Nat.lt_or_ge s li.length with h1 | h1
        · have := (hR.2 li[s] (List.getElem_mem h1)).2
          simp [List.getD, h1]; omega
        · simp [List.getD, h1]
      have hn320 := hR.1
      have hlw : (li.map Int.toNat).length = n := by rw [List.length_map]; exact hl
      obtain ⟨ws, hws⟩ : ∃ ws, li.map Int.toNat = ws := ⟨_, rfl⟩
      rw [hws] at hr2 hlw hwb ⊢
      have st := (St.start h0).ext hx
      have hsl := syms_len ws
      refine X_skip ?_
      refine X_blk ?_
      refine X_seq ?_
      refine X_reg ?_
      refine XR_a (op_move rfl) rfl rfl ?_
      refine XR_a (op_len rfl rfl rfl) rfl rfl ?_
      refine XR_wa (opl_mk (by omega) rfl rfl rfl) rfl rfl rfl ?_
      rintro v hp hnew
      have st := st.new hnew
      obtain ⟨Ao, no, co, rfl, _, _, _, _⟩ := st.row 0 rfl
      refine XR_wa (opl_new rfl) rfl rfl rfl ?_
      rintro _ hp ⟨p4, rfl, hnew⟩
      replace st := st.new hnew
      refine XR_wn (opl_store_pt st 0 rfl rfl rfl rfl rfl (rfl)) rfl rfl fun _ hp st => ?_
      simp only [List.set_cons_zero, List.set_cons_succ] at st
      refine XR_nil ?_
      refine X_seq ?_
      refine X_reg ?_
      refine XR_a (op_move rfl) rfl rfl ?_
      refine XR_wa (opl_call (items_spec (hr2.ext st.low) hlw (by omega)) rfl (by kernel_rfl)) rfl rfl rfl ?_
      rintro v2 hp2 st2
      obtain ⟨As, ns, cs, rfl, hls, _, _, _⟩ := st2.row 0 rfl
      replace st := st.join st2
      simp only [List.cons_append, List.nil_append] at st
      rw [List.length_map, Nat.mul_one] at hls
      have hrow := (st.rdS 2 rfl).1
      rw [List.length_replicate] at hrow
      have hno : no = n := by omega
      rw [hno] at st
      rw [show List.replicate n (Value.int .i64 0) = (outAt ws []).map nV by rw [outAt_nil, List.map_replicate, hlw]; rfl] at st
      refine XR_wa (opl_new rfl) rfl rfl rfl ?_
      rintro _ hp ⟨p5, rfl, hnew⟩
      replace st := st.new hnew
      refine XR_wn (opl_store_pt st 0 rfl rfl rfl rfl rfl (rfl)) rfl rfl fun _ hp st => ?_
      simp only [List.set_cons_zero, List.set_cons_succ] at st
      refine XR_nil ?_
      refine X_seq ?_
      refine X_seq ?_
      refine X_reg ?_
      refine XR_a (op_ld (st.cell 0 (i := 0) rfl rfl) rfl rfl rfl) rfl rfl ?_
      refine XR_a (op_len rfl rfl rfl) rfl rfl ?_
      refine XR_a (op_eql rfl rfl) rfl rfl ?_
      refine XR_nil ?_
      refine X_if rfl (fun h => ?_) (fun h => ?_)
      · have h3 : (syms ws).length = 1 := by omega
        obtain ⟨g5, o5, rfl, hc5⟩ := (st.rdS 1 rfl).2.at_ (by rw [List.length_map]; omega)
        have hs0 := hc5 0 (nV ((syms ws).getD 0 0)) (by rw [List.getElem?_map, List.getElem?_eq_getElem (by omega), getD_eq (by omega)]; rfl)
        have hsn := (mem_syms.1 (getD_mem (l := syms ws) (i := 0) (by omega))).1
        obtain ⟨go, no', co', heo, _⟩ := st.row0 3 rfl (by rw [List.length_map, outAt_len]; omega)
        cases heo
        refine X_draw byKind (by kernel_rfl) (by kernel_rfl) ?_
        refine XR_a (op_ld (st.cell 2 (i := 0) rfl rfl) rfl rfl rfl) rfl rfl ?_
        refine XR_a (op_ld (st.cell 0 (i := 0) rfl rfl) rfl rfl rfl) rfl rfl ?_
        refine XR_a (op_index1 (i := 0) rfl rfl rfl (by omega)) rfl rfl ?_
        refine XR_a (op_ld (hs0) rfl rfl rfl) rfl rfl ?_
        first | refine XR_a (op_index1 rfl rfl rfl (by omega)) rfl rfl ?_ | refine XR_a (op_index rfl rfl rfl (by omega)) rfl rfl ?_
        refine XR_wn (opl_store_row (v := nV 1) st 3 rfl rfl rfl (by rw [List.length_map, outAt_len]; omega) rfl rfl) rfl rfl fun _ hp st => ?_
        simp only [List.set_cons_zero, List.set_cons_succ] at st
        rw [map_set_nV, outAt_nil, lensW_single h3] at st
        refine XR_nil ?_
        refine X_seq ?_
        refine X_seq ?_
        refine X_reg ?_
        refine XR_a (op_ld (st.cell 0 (i := 0) rfl rfl) rfl rfl rfl) rfl rfl ?_
        refine XR_a (op_len rfl rfl rfl) rfl rfl ?_
        refine XR_a (op_lss rfl rfl) rfl rfl ?_
        refine XR_nil ?_
        refine X_if rfl (fun h => ?_) (fun h => ?_)
        · refine X_seq ?_
          refine X_reg ?_
          refine XR_a (op_ld (st.cell 2 (i := 0) rfl rfl) rfl rfl rfl) rfl rfl ?_
          refine XR_a (op_assign rfl) rfl rfl ?_
          refine XR_a (op_assign rfl) rfl rfl ?_
          refine XR_nil ?_
          refine X_ret (.cons (.tmp rfl) (.cons (.tmp rfl) .nil)) ?_
          exact ⟨_, rfl, (st.re 4 [3, 0, 1, 2] (by decide)).keep 1⟩
        · exact absurd h (by omega)
      · refine X_skip ?_
        refine X_seq ?_
        refine X_seq ?_
        refine X_reg ?_
        refine XR_a (op_ld (st.cell 0 (i := 0) rfl rfl) rfl rfl rfl) rfl rfl ?_
        refine XR_a (op_len rfl rfl rfl) rfl rfl ?_
        refine XR_a (op_lss rfl rfl) rfl rfl ?_
        refine XR_nil ?_
        refine X_if rfl (fun h => ?_) (fun h => ?_)
        · refine X_seq ?_
          refine X_reg ?_
          refine XR_a (op_ld (st.cell 2 (i := 0) rfl rfl) rfl rfl rfl) rfl rfl ?_
          refine XR_a (op_assign rfl) rfl rfl ?_
          refine XR_a (op_assign rfl) rfl rfl ?_
          refine XR_nil ?_
          refine X_ret (.cons (.tmp rfl) (.cons (.tmp rfl) .nil)) ?_
          rename_i h3 h4
          refine ⟨_, rfl, ?_⟩
          rw [lensW_zero (by omega), ← outAt_nil]
          exact (st.re 4 [3, 0, 1, 2] (by decide)).keep 1
        · refine X_skip ?_
          refine X_seq ?_
          have h2n : 2 ≤ (syms ws).length := by omega
          obtain ⟨go, no', co', heo, _⟩ := st.row0 3 rfl (by rw [List.length_map, outAt_len]; omega)
          cases heo
          refine X_reg ?_
          refine XR_a (op_move rfl) rfl rfl ?_
          refine XR_a (op_ld (st.cell 0 (i := 0) rfl rfl) rfl rfl rfl) rfl rfl ?_
          refine XR_wa (opl_call (rows_spec) rfl (by kernel_rfl)) rfl rfl rfl ?_
          rintro _ hp3 ⟨pa, pq, rfl, st3⟩
          replace st := st.join st3
          simp only [List.cons_append, List.nil_append] at st
          have stc := st.re 6 [0, 1, 3, 2, 4, 5] (by decide)
          simp only [List.map_cons, List.map_nil, getR] at stc
          have hbase := stc.low
          refine XR_wa (opl_call (collect_rows (α := List Value × List (Value × List Value)) (Q := fun x => x.1.length = 15 ∧ ∀ j, j < 15 → (x.1.getD j (.slice none 0 0), (rowE (sws ws) (j + 1)).flatMap eC) ∈ x.2) (out := fun x => x.1) (F2 := fun x => rowsR 238 2 x.2 :: Bn.row 3 1 (.slice As ns cs) ((syms ws).map nV) :: _) (lb := [.pointer (some ⟨pa, 0, none⟩), .pointer (some ⟨pq, 0, none⟩)]) stc.here (by kernel_rfl) (fun JR G y h hlow s hround => by refine Ret.mono (rows_iter (ws := ws) (F := [_, _, _] ++ G) JR (s.perm (((List.perm_append_comm_assoc [_, _, _] (JR []) G).cons _).cons _ |>.cons _)) (fun h' hl' => hr2.ext ((hbase.trans hlow).trans hl')) hlw (fun s hs => by have := (mem_syms.1 hs).1; omega) (by omega) (fun s _ => hwb s) hround) ?_; rintro _ h' ⟨vs, L, e1, e2, s2⟩; exact ⟨(vs, L), ⟨e1, e2⟩, s2⟩)) rfl (by kernel_rfl)) rfl rfl rfl ?_
          rintro v6 hp6 ⟨⟨vs, L⟩, ⟨hvs, hvL⟩, st6⟩
          obtain ⟨A6, n6, c6, rfl, hl6, _, _, _⟩ := st6.row 0 rfl
          simp only at st6 hl6 hvs hvL
          obtain rfl : n6 = 15 := by omega
          replace st := stc.trans st6
          refine XR_a (op_assign rfl) rfl rfl ?_
          refine XR_nil ?_
          refine X_seq ?_
          refine X_reg ?_
          refine XR_a (op_ld (st.cell 3 (i := 0) rfl rfl) rfl rfl rfl) rfl rfl ?_
          refine XR_a (op_len rfl rfl rfl) rfl rfl ?_
          first | refine XR_a (op_mulN (m := 2) rfl rfl (by simp only [inK]; omega)) rfl rfl ?_ | refine XR_a (op_mulI rfl rfl (by simp only [inK]; omega)) rfl rfl ?_ | refine XR_a (op_mul rfl rfl) rfl rfl ?_
          refine XR_a (op_subN (m := 2 * ns) (n := 2) rfl rfl (by omega) (by simp only [inK]; omega)) rfl rfl ?_
          refine XR_wa (opl_new rfl) rfl rfl rfl ?_
          rintro _ hp ⟨p7, rfl, hnew⟩
          replace st := st.new hnew
          refine XR_wn (opl_store_pt st 0 rfl rfl rfl rfl rfl (rfl)) rfl rfl fun _ hp st => ?_
          simp only [List.set_cons_zero, List.set_cons_succ] at st
          refine XR_nil ?_
          refine X_seq ?_
          refine X_seq ?_
          refine X_reg ?_
          refine XR_a (op_move rfl) rfl rfl ?_
          refine XR_wa (opl_call (backward_spec) rfl (by kernel_rfl)) rfl rfl rfl ?_
          rintro _ hp8 ⟨pb, rfl, st8⟩
          replace st := st.join st8
          simp only [List.cons_append, List.nil_append] at st
          refine XR_nil ?_
          refine X_block ?_
          refine X_rangeS st rfl rfl (by kernel_rfl) fun fn tmps LL y d hp1 hL hok hx1 st1 => ?_
          obtain ⟨JR, hJR⟩ : ∃ JR : Nat → List Res, JR = fun j => [exR fun x : List Nat × Nat => andR (x.1 ++ lev (sws ws) (15 - j) x.2 = levW ws ∧ x.2 ≤ (rowE (sws ws) (15 - j)).length) (starR (pt p7 3 [nV x.2]) (Bn.row 3 1 (.slice (some ⟨go, 0, none⟩) n co) ((outAt ws x.1).map nV))),
            obj y (LL .ready none), rowsR 238 2 L, Bn.row 3 1 (.slice As ns cs) ((syms ws).map nV), pt p5 25 [.slice As ns cs], pt p4 25 [.slice (some ⟨go, 0, none⟩) n co]] := ⟨_, rfl⟩
          have st9 := st1.re 10 [3, 9, 2, 4, 0, 5, 6, 7, 8, 1] (by decide)
          simp only [List.map_cons, List.map_nil, getR] at st9
          have hT : ([] : List Nat) ++ lev (sws ws) (15 - 0) (2 * ns - 2) = levW ws ∧ 2 * ns - 2 ≤ (rowE (sws ws) (15 - 0)).length := by
            rw [← hls]
            exact ⟨(levW_two h2n).symm, rowW_len h2n (by omega)⟩
          have st10 := (St.ex.2 ⟨([], 2 * ns - 2), St.and.2 ⟨hT, St.star.2 st9⟩⟩ : St h0.size h0 hp1 ((exR fun x : List Nat × Nat => andR (x.1 ++ lev (sws ws) (15 - 0) x.2 = levW ws ∧ x.2 ≤ (rowE (sws ws) (15 - 0)).length) (starR (pt p7 3 [nV x.2]) (Bn.row 3 1 (.slice (some ⟨go, 0, none⟩) n co) ((outAt ws x.1).map nV)))) :: _)).re 9 [1, 2, 0, 3, 4, 5, 6, 7, 8] (by decide)
          simp only [List.map_cons, List.map_nil, getR] at st10
          have st11 : St h0.size h0 hp1 (pt pb 228 [.slice A6 15 c6] :: Bn.row 230 1 (.slice A6 15 c6) vs :: (JR 0 ++ [obj d (.deferred (some []))])) := by rw [hJR]; exact st10
          refine Ret.mono (backward_iter JR (by omega) st11.here ?_) ?_
          · intro j F' h hlow hj st2
            subst hL
            subst hJR
            simp only [List.cons_append, List.nil_append] at st2
            obtain ⟨⟨dn, t⟩, st2⟩ := St.ex.1 st2
            obtain ⟨⟨hlev, ht⟩, st2⟩ := St.and.1 st2
            replace st2 := St.star.1 st2
            simp only at hlev ht st2
            obtain ⟨r, hr15⟩ : ∃ r, 15 - j = r + 1 := ⟨14 - j, by omega⟩
            rw [hr15] at hlev ht
            have hrj : 15 - 1 - j = r := by omega
            rw [hrj]
            have hmem := hvL r (by omega)
            obtain ⟨A9, n9, c9, hv9, hl9, hn9, _, hrd9⟩ := st2.rowsAt 3 rfl hmem
            rw [flat_length _ 2 (fun _ => rfl)] at hl9
            simp only at hv9
            rw [hv9]
            obtain ⟨k1, k2, k3, k4, _⟩ := row_take (sws_asc ws) r t ht
            rw [sws_length] at k2
            have hrb := rowE_bd (sws ws) (r + 1)
            rw [sws_length] at hrb
            refine rret_of_X (st2.obj_at 2 rfl) hok rfl rfl fun w0 hw0 => ?_
            simp only [penv]
            refine X_reg ?_
            refine XR_a (op_assign rfl) rfl rfl ?_
            refine XR_nil ?_
            refine X_begin (st2.obj_at 2 rfl) ?_
            have st := st2.loop 2 .busy none rfl
            simp only [List.set_cons_zero, List.set_cons_succ] at st
            refine X_block ?_
            refine X_seq ?_
            refine X_reg ?_
            refine XR_a (op_assign rfl) rfl rfl ?_
            refine XR_nil ?_
            refine X_seq ?_
            refine X_seq ?_
            refine X_reg ?_
            refine XR_a (op_move rfl) rfl rfl ?_
            refine XR_a (op_ld (st.cell 0 (i := 0) rfl rfl) rfl rfl rfl) rfl rfl ?_
            refine XR_a (op_slice_h rfl rfl rfl (by omega)) rfl rfl ?_
            rw [cutA_zero]
            refine XR_a (op_len rfl rfl rfl) rfl rfl ?_
            refine XR_a (op_move rfl) rfl rfl ?_
            refine XR_nil ?_
            refine X_block ?_
            rw [← outIn_zero] at st
            refine X_loop (fun s => t - s.1) (fun s => [(4, .pointer (some ⟨p4, 0, none⟩)), (5, .pointer (some ⟨p5, 0, none⟩)), (7, .pointer (some ⟨p7, 0, none⟩)), (10, nV s.2), (52, .slice A9 t c9), (53, nV t), (54, nV s.1)])
              (fun (s : Nat × Nat) hp => s.1 ≤ t ∧ s.2 = ((rowE (sws ws) (r + 1)).take s.1).countP isItem ∧ Low h0.size h hp ∧ St h0.size h hp (pt p7 3 [nV t] :: Bn.row 3 1 (.slice (some ⟨go, 0, none⟩) n co) ((outIn ws dn s.2).map nV) :: obj y (loopR fn tmps #[48, 49] _ _ d .busy none) :: rowsR 238 2 L :: Bn.row 3 1 (.slice As ns cs) ((syms ws).map nV) :: pt p5 25 [.slice As ns cs] :: pt p4 25 [.slice (some ⟨go, 0, none⟩) n co] :: F'))
              (0, 0) (.cons rfl (.cons rfl (.cons rfl (.cons rfl (.cons rfl (.cons rfl (.cons rfl (.nil _)))))))) ⟨Nat.zero_le _, by simp, st.low, st⟩ ?_
            clear st
            rintro ⟨i, k⟩ hp9 ⟨hi, hk, hlow9, st⟩
            simp only at hi hk st ⊢
            refine X_seq ?_
            refine X_reg ?_
            refine XR_a (op_lss rfl rfl) rfl rfl ?_
            refine XR_nil ?_
            refine X_seq ?_
            refine X_if rfl (fun h => ?_) (fun h => ?_)
            · have hit : i < (rowE (sws ws) (r + 1)).length := by omega
              have hrd9 := (st.rowsAt 3 rfl hmem)
              simp only [hv9] at hrd9
              obtain ⟨A9', n9', c9', he9, _, _, _, hrd9⟩ := hrd9
              cases he9
              obtain ⟨g9, o9, rfl, hc9⟩ := Rd.flat eC 2 hrd9 (fun _ => rfl) (by omega) (by omega)
              have hcell := hc9 i hit
              have htk := List.take_succ_eq_append_getElem hit
              obtain ⟨e, hee⟩ : ∃ e, (rowE (sws ws) (r + 1))[i] = e := ⟨_, rfl⟩
              rw [hee] at hcell htk
              have hk' : ((rowE (sws ws) (r + 1)).take (i + 1)).countP isItem = k + if isItem e = true then 1 else 0 := by
                rw [htk, List.countP_append, List.countP_singleton, hk]
              obtain ⟨q1, q2, _⟩ := row_take (sws_asc ws) r (i + 1) (by omega)
              unfold numI at q1 q2
              rw [sws_length] at q2
              refine X_skip ?_
              refine X_seq ?_
              refine X_block ?_
              refine X_seq ?_
              refine X_reg ?_
              refine XR_a (op_index (i := i) rfl rfl rfl (by omega)) rfl rfl ?_
              refine XR_a (op_ldA (vs := eC e) (fun j u hu => hcell j u hu) rfl rfl rfl rfl) rfl rfl ?_
              refine XR_wa (opl_new rfl) rfl rfl rfl ?_
              rintro _ hp ⟨p12, rfl, hnew⟩
              replace st := st.new hnew
              refine XR_wn (opl_store_whole (us := eC e) st 0 rfl rfl rfl rfl rfl (one_eC e) rfl) rfl rfl fun _ hp st => ?_
              simp only [List.set_cons_zero] at st
              refine XR_nil ?_
              refine X_seq ?_
              refine X_reg ?_
              first | refine XR_a (op_field0 rfl rfl) rfl rfl ?_ | refine XR_a (op_fieldn rfl rfl) rfl rfl ?_
              refine XR_a (op_ld (st.cell 0 (i := 1) rfl rfl) rfl rfl rfl) rfl rfl ?_
              refine XR_nil ?_
              refine X_cond rfl (fun h => ?_) (fun h => ?_)
              · rw [if_pos h] at hk'
                have hks : k < (syms ws).length := by omega
                obtain ⟨g5, o5, rfl, hc5⟩ := (st.rdS 5 rfl).2.at_ (by rw [List.length_map]; omega)
                have hsk := hc5 k (nV ((syms ws).getD k 0)) (by rw [List.getElem?_map, List.getElem?_eq_getElem hks, getD_eq hks]; rfl)
                have hsn := (mem_syms.1 (getD_mem (l := syms ws) hks)).1
                have hog := outIn_get (L := dn) (k := k) hsn
                rw [idxOf_getD hks, if_neg (by omega), Nat.add_zero] at hog
                obtain ⟨g6, o6, he6, hc6⟩ := (st.rdS 2 rfl).2.at_ (by rw [List.length_map, outIn_len]; omega)
                cases he6
                have hov := hc6 _ _ (map_get_nV hog)
                have hset := outIn_set (L := dn) hks
                have hlv := lvl_le dn k
                have hdl : dn.length ≤ 15 := by
                  have := congrArg List.length hlev
                  rw [List.length_append, lev_length] at this
                  have := levW_length (ws := ws)
                  omega
                refine X_seq ?_
                refine X_draw byKind (by kernel_rfl) (by kernel_rfl) ?_
                refine XR_a (op_ld (st.cell 7 (i := 0) rfl rfl) rfl rfl rfl) rfl rfl ?_
                refine XR_a (op_ld (st.cell 6 (i := 0) rfl rfl) rfl rfl rfl) rfl rfl ?_
                refine XR_a (op_move rfl) rfl rfl ?_
                first | refine XR_a (op_index1 rfl rfl rfl (by omega)) rfl rfl ?_ | refine XR_a (op_index rfl rfl rfl (by omega)) rfl rfl ?_
                refine XR_a (op_ld (hsk) rfl rfl rfl) rfl rfl ?_
                first | refine XR_a (op_index1 rfl rfl rfl (by omega)) rfl rfl ?_ | refine XR_a (op_index rfl rfl rfl (by omega)) rfl rfl ?_
                refine XR_a (op_ld (hov) rfl rfl rfl) rfl rfl ?_
                first | refine XR_a (op_addN (n := 1) rfl rfl (by simp only [inK]; omega)) rfl rfl ?_ | refine XR_a (op_addI rfl rfl (by simp only [inK]; omega)) rfl rfl ?_ | refine XR_a (op_add rfl rfl) rfl rfl ?_
                first | refine XR_a (op_index1 rfl rfl rfl (by omega)) rfl rfl ?_ | refine XR_a (op_index rfl rfl rfl (by omega)) rfl rfl ?_
                refine XR_wn (opl_store_row (v := nV (lvl dn k + 1)) st 2 rfl rfl rfl (by rw [List.length_map, outIn_len]; omega) rfl rfl) rfl rfl fun _ hp st => ?_
                simp only [List.set_cons_zero, List.set_cons_succ] at st
                rw [map_set_nV, hset] at st
                refine XR_nil ?_
                refine X_reg ?_
                refine XR_a (op_move rfl) rfl rfl ?_
                first | refine XR_a (op_addN (n := 1) rfl rfl (by simp only [inK]; omega)) rfl rfl ?_ | refine XR_a (op_addI rfl rfl (by simp only [inK]; omega)) rfl rfl ?_ | refine XR_a (op_add rfl rfl) rfl rfl ?_
                refine XR_a (op_assign rfl) rfl rfl ?_
                refine XR_nil ?_
                refine X_blk ?_
                refine X_reg ?_
                first | refine XR_a (op_addN (n := 1) rfl rfl (by simp only [inK]; omega)) rfl rfl ?_ | refine XR_a (op_addI rfl rfl (by simp only [inK]; omega)) rfl rfl ?_ | refine XR_a (op_add rfl rfl) rfl rfl ?_
                refine XR_a (op_move rfl) rfl rfl ?_
                refine XR_nil ?_
                exact X_again (i + 1, k + 1) (.cons rfl (.cons rfl (.cons rfl (.cons rfl (.cons rfl (.cons rfl (.cons rfl (.nil _)))))))) ⟨by simp only; omega, hk'.symm, st.low, st.tail⟩ (by simp only; omega)
              · refine X_skip ?_
                refine X_blk ?_
                refine X_reg ?_
                first | refine XR_a (op_addN (n := 1) rfl rfl (by simp only [inK]; omega)) rfl rfl ?_ | refine XR_a (op_addI rfl rfl (by simp only [inK]; omega)) rfl rfl ?_ | refine XR_a (op_add rfl rfl) rfl rfl ?_
                refine XR_a (op_move rfl) rfl rfl ?_
                refine XR_nil ?_
                have hff : ¬ isItem e = true := by simpa using h
                rw [if_neg hff, Nat.add_zero] at hk'
                exact X_again (i + 1, k) (.cons rfl (.cons rfl (.cons rfl (.cons rfl (.cons rfl (.cons rfl (.cons rfl (.nil _)))))))) ⟨by simp only; omega, hk'.symm, st.low, st.tail⟩ (by simp only; omega)
            · refine X_exit rfl ?_
              obtain rfl : i = t := by omega
              have hkn : k = numI (sws ws) (r + 1) i := hk
              refine X_reg ?_
              refine XR_a (op_ld (st.cell 0 (i := 0) rfl rfl) rfl rfl rfl) rfl rfl ?_
              refine XR_a (op_move rfl) rfl rfl ?_
              first | refine XR_a (op_subN rfl rfl (by omega) (by simp only [inK]; omega)) rfl rfl ?_ | refine XR_a (op_subI rfl rfl (by simp only [inK]; omega)) rfl rfl ?_ | refine XR_a (op_sub rfl rfl) rfl rfl ?_
              first | refine XR_a (op_mulN (m := 2) rfl rfl (by simp only [inK]; omega)) rfl rfl ?_ | refine XR_a (op_mulI rfl rfl (by simp only [inK]; omega)) rfl rfl ?_ | refine XR_a (op_mul rfl rfl) rfl rfl ?_
              refine XR_wn (opl_store_pt st 0 rfl rfl rfl rfl rfl (rfl)) rfl rfl fun _ hp st => ?_
              simp only [List.set_cons_zero, List.set_cons_succ] at st
              refine XR_nil ?_
              refine X_blk ?_
              refine X_rnd (st.obj_at 2 rfl) ⟨rfl, ?_⟩
              replace st := st.loop 2 .ready none rfl
              simp only [List.set_cons_zero, List.set_cons_succ] at st
              rw [outIn_done] at st
              have hj1 : 15 - (j + 1) = r := by omega
              simp only [List.cons_append, List.nil_append, hj1]
              refine St.ex.2 ⟨(dn ++ [k], 2 * (i - k)), St.and.2 ⟨⟨?_, ?_⟩, St.star.2 st⟩⟩
              · rw [← hlev, lev, ← hkn]; simp
              · rw [← hkn] at k3; exact k3
          rintro _ h' st2
          subst hJR
          simp only [List.cons_append, List.nil_append] at st2
          refine .inl ⟨_, (st11.trans st2).perm (List.Perm.swap _ _ _), fun hp3 st3 => ?_⟩
          obtain ⟨⟨dn, t⟩, st3⟩ := St.ex.1 (st3.perm (List.Perm.swap _ _ _))
          obtain ⟨⟨hlev, _⟩, st3⟩ := St.and.1 st3
          have st := St.star.1 st3
          simp only at hlev st
          rw [show 15 - 15 = 0 from rfl, lev, List.append_nil] at hlev
          rw [hlev, outAt_levW] at st
          refine X_blk ?_
          refine X_seq ?_
          refine X_reg ?_
          refine XR_a (op_ld (st.cell 6 (i := 0) rfl rfl) rfl rfl rfl) rfl rfl ?_
          refine XR_a (op_assign rfl) rfl rfl ?_
          refine XR_a (op_assign rfl) rfl rfl ?_
          refine XR_nil ?_
          refine X_retM (d := d) (.cons (.tmp rfl) (.cons (.tmp rfl) .nil)) ?_ (st.obj_at 7 rfl)
          replace st := st.put 7 (.deferred none) rfl
          exact ⟨_, rfl, (st.re 8 [1, 0, 2, 3, 4, 5, 6, 7] (by decide)).keep 1⟩
end Go.Bn
end
