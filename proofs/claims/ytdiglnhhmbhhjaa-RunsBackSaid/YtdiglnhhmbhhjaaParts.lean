/- The contracts of runs' parts. -/
import Derived.Test.YtdiglnhhmbhhjaaRuns3
import Derived.Test.YtdiglnhhmbhhjaaWeigh2
set_option linter.unusedVariables false
set_option linter.unusedSimpArgs false
set_option maxHeartbeats 4000000
set_option maxRecDepth 20000
namespace Go.Bn
open Go Proofs

theorem eqRun_is {x : Nat} : ∀ {d : List Nat} {k : Nat}, k ≤ d.length → (∀ i, i < k → d.getD i 0 = x) → (d.length ≤ k ∨ d.getD k 0 ≠ x) → eqRun x d = k
  | [], k, h1, _, _ => by
    have : k = 0 := by simpa using h1
    subst this; rfl
  | y :: r, 0, h1, h2, h3 => by
    unfold eqRun
    rcases h3 with h3 | h3
    · simp at h3
    · rw [if_neg (by simpa using h3)]
  | y :: r, k + 1, h1, h2, h3 => by
    have hy := h2 0 (by omega)
    rw [List.getD_cons_zero] at hy
    unfold eqRun
    rw [if_pos hy, eqRun_is (k := k) (by simpa using h1) (fun i hi => by have := h2 (i + 1) (by omega); rwa [List.getD_cons_succ] at this) (by rw [List.getD_cons_succ] at h3; simpa using h3)]
theorem getD_drop (l : List Nat) (a i : Nat) : (l.drop a).getD i 0 = l.getD (a + i) 0 := by simp [List.getD, List.getElem?_drop]

theorem rrow_spec {n c a : Nat} {A : Option Addr} {l : List Nat} {h0 : Heap} (hr : Rd h0 A (l.map nV)) (hl : l.length = n) (hn : n ≤ 17592186044416) (ha : a < n) :
    Ret Try.prog 135 [.slice A n c, nV a] h0 fun v h' => v = nV (runAt l a) ∧ h0 = h' := by
  obtain ⟨g, o, rfl, hc⟩ := hr.at_ (by rw [List.length_map]; omega)
  have hci : ∀ i, i < n → cellH h0 ⟨g, o + i, none⟩ = some (nV (l.getD i 0)) := fun i hi => hc i _ (by rw [List.getElem?_map, List.getElem?_eq_getElem (by omega), getD_get (by omega)]; rfl)
  refine ret_of_X Try.func135 rfl rfl fun w0 hw0 => ?_
  simp only [argE, Nat.zero_add, Nat.reduceAdd]
  refine X_seq ?_
  refine X_reg ?_
  refine XR_a (op_assign rfl) rfl rfl ?_
  refine XR_nil ?_
  refine X_seq ?_
  refine X_reg ?_
  refine XR_a (op_assign rfl) rfl rfl ?_
  refine XR_nil ?_
  refine X_seq ?_
  refine X_block ?_
  refine X_loop (fun k => n - k) (fun k => [(0, .slice (some ⟨g, o, none⟩) n c), (1, nV a), (5, nV k)])
    (fun (k : Nat) hp => h0 = hp ∧ a + k ≤ n ∧ ∀ i, i < k → l.getD (a + i) 0 = l.getD a 0)
    0 (.cons rfl (.cons rfl (.cons rfl (.nil _)))) ⟨rfl, by omega, fun i hi => by omega⟩ ?_
  rintro k hp ⟨rfl, hk, hall⟩
  have hfin : (n ≤ a + k ∨ l.getD (a + k) 0 ≠ l.getD a 0) → runAt l a = k := fun h => by
    unfold runAt
    refine eqRun_is (by rw [List.length_drop]; omega) (fun i hi => by rw [getD_drop]; exact hall i hi) ?_
    rw [List.length_drop, getD_drop]
    rcases h with h | h
    · left; omega
    · exact .inr h
  refine X_seq ?_
  refine X_seq ?_
  refine X_draw byKind (by kernel_rfl) (by kernel_rfl) ?_
  refine XR_a (op_move rfl) rfl rfl ?_
  refine XR_a (op_move rfl) rfl rfl ?_
  first | refine XR_a (op_addN rfl rfl (by simp only [inK]; omega)) rfl rfl ?_ | refine XR_a (op_addI rfl rfl (by simp only [inK]; omega)) rfl rfl ?_ | refine XR_a (op_add rfl rfl) rfl rfl ?_
  refine XR_a (op_move rfl) rfl rfl ?_
  refine XR_a (op_len rfl rfl rfl) rfl rfl ?_
  refine XR_a (op_lss rfl rfl) rfl rfl ?_
  refine XR_a (op_move rfl) rfl rfl ?_
  refine XR_if 12 rfl (fun h => ?_) (fun h => ?_)
  · have h12 := h
    refine XR_a (op_move rfl) rfl rfl ?_
    refine XR_a (op_move rfl) rfl rfl ?_
    refine XR_a (op_move rfl) rfl rfl ?_
    first | refine XR_a (op_addN rfl rfl (by simp only [inK]; omega)) rfl rfl ?_ | refine XR_a (op_addI rfl rfl (by simp only [inK]; omega)) rfl rfl ?_ | refine XR_a (op_add rfl rfl) rfl rfl ?_
    refine XR_a (op_index1 (i := a + k) rfl rfl rfl (by omega)) rfl rfl ?_
    refine XR_a (op_ld (hci (a + k) (by omega)) rfl rfl rfl) rfl rfl ?_
    refine XR_a (op_move rfl) rfl rfl ?_
    refine XR_a (op_move rfl) rfl rfl ?_
    first | refine XR_a (op_index1 rfl rfl rfl (by omega)) rfl rfl ?_ | refine XR_a (op_index rfl rfl rfl (by omega)) rfl rfl ?_
    refine XR_a (op_ld (hci a (by omega)) rfl rfl rfl) rfl rfl ?_
    refine XR_a (op_eql rfl rfl) rfl rfl ?_
    refine XR_a (op_pick_t rfl rfl) rfl rfl ?_
    refine XR_nil ?_
    refine X_if rfl (fun h => ?_) (fun h => ?_)
    · refine X_skip ?_
      refine X_block ?_
      refine X_reg ?_
      refine XR_a (op_move rfl) rfl rfl ?_
      first | refine XR_a (op_addN (n := 1) rfl rfl (by simp only [inK]; omega)) rfl rfl ?_ | refine XR_a (op_addI rfl rfl (by simp only [inK]; omega)) rfl rfl ?_ | refine XR_a (op_add rfl rfl) rfl rfl ?_
      refine XR_a (op_assign rfl) rfl rfl ?_
      refine XR_nil ?_
      refine X_blk ?_
      exact X_again (k + 1) (.cons rfl (.cons rfl (.cons rfl (.nil _)))) ⟨rfl, by omega, fun i hi => by
        rcases Nat.lt_or_ge i k with h9 | h9
        · exact hall i h9
        · obtain rfl : i = k := by omega
          omega⟩ (by omega)
    · refine X_exit rfl ?_
      refine X_seq ?_
      refine X_reg ?_
      refine XR_a (op_move rfl) rfl rfl ?_
      refine XR_a (op_assign rfl) rfl rfl ?_
      refine XR_nil ?_
      refine X_ret (.cons (.tmp rfl) .nil) ?_
      rw [hfin (.inr (by omega))]
      exact ⟨rfl, rfl⟩
  · refine XR_no rfl rfl ?_
    refine XR_no rfl rfl ?_
    refine XR_no rfl rfl ?_
    refine XR_no rfl rfl ?_
    refine XR_no rfl rfl ?_
    refine XR_no rfl rfl ?_
    refine XR_no rfl rfl ?_
    refine XR_no rfl rfl ?_
    refine XR_no rfl rfl ?_
    refine XR_no rfl rfl ?_
    refine XR_no rfl rfl ?_
    refine XR_a (op_pick_f rfl rfl) rfl rfl ?_
    refine XR_nil ?_
    refine X_else rfl ?_
    refine X_exit rfl ?_
    refine X_seq ?_
    refine X_reg ?_
    refine XR_a (op_move rfl) rfl rfl ?_
    refine XR_a (op_assign rfl) rfl rfl ?_
    refine XR_nil ?_
    refine X_ret (.cons (.tmp rfl) .nil) ?_
    rw [hfin (.inl (by omega))]
    exact ⟨rfl, rfl⟩

def pC2 (x : Nat × Nat) : List Value := [nV x.1, nV x.2]
theorem one_pC2 (x : Nat × Nat) : ∀ u ∈ pC2 x, Value.one u = true := one_nV [x.1, x.2]
theorem rpart_spec {n c a : Nat} {A : Option Addr} {l : List Nat} {h0 : Heap} (hr : Rd h0 A (l.map nV)) (hl : l.length = n) (hn : n ≤ 17592186044416) (ha : a < n) :
    Ret Try.prog 122 [.slice A n c, nV a] h0 fun v h' => v = .agg (pC2 (partAt l a)).toArray ∧ Ext h0 h' := by
  obtain ⟨g, o, rfl, hc⟩ := hr.at_ (by rw [List.length_map]; omega)
  have hci : ∀ i, i < n → cellH h0 ⟨g, o + i, none⟩ = some (nV (l.getD i 0)) := fun i hi => hc i _ (by rw [List.getElem?_map, List.getElem?_eq_getElem (by omega), getD_get (by omega)]; rfl)
  have hP : partAt l a = if l.getD a 0 = 0 ∧ 11 ≤ runAt l a then (18, min (runAt l a) 138) else if l.getD a 0 = 0 ∧ 3 ≤ runAt l a then (17, runAt l a) else
    if 0 < a ∧ l.getD a 0 = l.getD (a - 1) 0 ∧ 3 ≤ runAt l a then (16, min (runAt l a) 6) else (l.getD a 0, 1) := rfl
  have hrl := runAt_le l a
  refine ret_of_X Try.func122 rfl rfl fun w0 hw0 => ?_
  simp only [argE, Nat.zero_add, Nat.reduceAdd]
  have st := St.start h0
  refine X_seq ?_
  refine X_reg ?_
  refine XR_wa (opl_new rfl) rfl rfl rfl ?_
  rintro _ hp ⟨p, rfl, hnew⟩
  replace st := st.new hnew
  have hcx := fun i (hi : i < n) => cellH_ext (a := ⟨g, o + i, none⟩) st.low (hci i hi)
  refine XR_nil ?_
  refine X_seq ?_
  refine X_reg ?_
  refine XR_a (op_move rfl) rfl rfl ?_
  refine XR_a (op_move rfl) rfl rfl ?_
  refine XR_wa (opl_call (rrow_spec (hr.ext st.low) hl hn ha) rfl (by kernel_rfl)) rfl rfl rfl ?_
  rintro _ _ ⟨rfl, rfl⟩
  obtain ⟨r, hre⟩ : ∃ r, runAt l a = r := ⟨_, rfl⟩
  rw [hre] at hP hrl ⊢
  refine XR_a (op_assign rfl) rfl rfl ?_
  refine XR_nil ?_
  refine X_seq ?_
  refine X_block ?_
  refine X_seq ?_
  refine X_reg ?_
  refine XR_a (op_move rfl) rfl rfl ?_
  refine XR_a (op_move rfl) rfl rfl ?_
  first | refine XR_a (op_index1 rfl rfl rfl (by omega)) rfl rfl ?_ | refine XR_a (op_index rfl rfl rfl (by omega)) rfl rfl ?_
  refine XR_a (op_ld (hcx a ha) rfl rfl rfl) rfl rfl ?_
  refine XR_a (op_eql rfl rfl) rfl rfl ?_
  refine XR_a (op_move rfl) rfl rfl ?_
  refine XR_if 15 rfl (fun h => ?_) (fun h => ?_)
  · have h15 := h
    refine XR_a (op_move rfl) rfl rfl ?_
    refine XR_a (op_geq rfl rfl) rfl rfl ?_
    refine XR_a (op_pick_t rfl rfl) rfl rfl ?_
    refine XR_a (op_assign rfl) rfl rfl ?_
    refine XR_nil ?_
    refine X_if rfl (fun h => ?_) (fun h => ?_)
    · refine X_seq ?_
      refine X_reg ?_
      refine XR_a (op_move rfl) rfl rfl ?_
      refine XR_a (op_min2 rfl rfl) rfl rfl ?_
      refine XR_as (nV (min r 138)) (congrArg (Value.int .i64) (by omega)) ?_
      refine XR_a (op_build (ps := [(0, nV 18), (1, nV (min r 138))]) (cs := #[nV 18, nV (min r 138)]) rfl rfl) rfl rfl ?_
      refine XR_wn (opl_store_whole (us := [nV 18, nV (min r 138)]) st 0 rfl rfl rfl rfl rfl (one_nV [18, _]) rfl) rfl rfl fun _ hp st => ?_
      simp only [List.set_cons_zero] at st
      refine XR_nil ?_
      refine X_ret (.cons (RV_agg rfl rfl rfl (st.cells 0 rfl)) .nil) ?_
      rw [hP, if_pos (by omega)]
      exact ⟨rfl, st.low⟩
    · have h1 := h
      refine X_seq ?_
      refine X_reg ?_
      refine XR_a (op_move rfl) rfl rfl ?_
      refine XR_a (op_move rfl) rfl rfl ?_
      first | refine XR_a (op_index1 rfl rfl rfl (by omega)) rfl rfl ?_ | refine XR_a (op_index rfl rfl rfl (by omega)) rfl rfl ?_
      refine XR_a (op_ld (hcx a ha) rfl rfl rfl) rfl rfl ?_
      refine XR_a (op_eql rfl rfl) rfl rfl ?_
      refine XR_a (op_move rfl) rfl rfl ?_
      refine XR_if 28 rfl (fun h => ?_) (fun h => ?_)
      · have h28 := h
        refine XR_a (op_move rfl) rfl rfl ?_
        refine XR_a (op_geq rfl rfl) rfl rfl ?_
        refine XR_a (op_pick_t rfl rfl) rfl rfl ?_
        refine XR_a (op_assign rfl) rfl rfl ?_
        refine XR_nil ?_
        refine X_if rfl (fun h => ?_) (fun h => ?_)
        · refine X_seq ?_
          refine X_reg ?_
          refine XR_a (op_move rfl) rfl rfl ?_
          refine XR_a (op_build (ps := [(0, nV 17), (1, nV r)]) (cs := #[nV 17, nV r]) rfl rfl) rfl rfl ?_
          refine XR_wn (opl_store_whole (us := [nV 17, nV r]) st 0 rfl rfl rfl rfl rfl (one_nV [17, _]) rfl) rfl rfl fun _ hp st => ?_
          simp only [List.set_cons_zero] at st
          refine XR_nil ?_
          refine X_ret (.cons (RV_agg rfl rfl rfl (st.cells 0 rfl)) .nil) ?_
          rw [hP, if_neg (by omega), if_pos (by omega)]
          exact ⟨rfl, st.low⟩
        · have h2 := h
          refine X_seq ?_
          refine X_draw byKind (by kernel_rfl) (by kernel_rfl) ?_
          refine XR_a (op_move rfl) rfl rfl ?_
          refine XR_a (op_gtr rfl rfl) rfl rfl ?_
          refine XR_a (op_move rfl) rfl rfl ?_
          refine XR_if 37 rfl (fun h => ?_) (fun h => ?_)
          · have h37 := h
            refine XR_a (op_move rfl) rfl rfl ?_
            refine XR_a (op_move rfl) rfl rfl ?_
            first | refine XR_a (op_index1 rfl rfl rfl (by omega)) rfl rfl ?_ | refine XR_a (op_index rfl rfl rfl (by omega)) rfl rfl ?_
            refine XR_a (op_ld (hcx a ha) rfl rfl rfl) rfl rfl ?_
            refine XR_a (op_move rfl) rfl rfl ?_
            refine XR_a (op_move rfl) rfl rfl ?_
            first | refine XR_a (op_subN (n := 1) rfl rfl (by omega) (by simp only [inK]; omega)) rfl rfl ?_ | refine XR_a (op_subI rfl rfl (by simp only [inK]; omega)) rfl rfl ?_ | refine XR_a (op_sub rfl rfl) rfl rfl ?_
            refine XR_a (op_index1 (i := a - 1) rfl rfl rfl (by omega)) rfl rfl ?_
            refine XR_a (op_ld (hcx (a - 1) (by omega)) rfl rfl rfl) rfl rfl ?_
            refine XR_a (op_eql rfl rfl) rfl rfl ?_
            refine XR_a (op_pick_t rfl rfl) rfl rfl ?_
            refine XR_a (op_move rfl) rfl rfl ?_
            refine XR_if 49 rfl (fun h => ?_) (fun h => ?_)
            · have h49 := h
              refine XR_a (op_move rfl) rfl rfl ?_
              refine XR_a (op_geq rfl rfl) rfl rfl ?_
              refine XR_a (op_pick_t rfl rfl) rfl rfl ?_
              refine XR_a (op_assign rfl) rfl rfl ?_
              refine XR_nil ?_
              refine X_if rfl (fun h => ?_) (fun h => ?_)
              · refine X_seq ?_
                refine X_reg ?_
                refine XR_a (op_move rfl) rfl rfl ?_
                refine XR_a (op_min2 rfl rfl) rfl rfl ?_
                refine XR_as (nV (min r 6)) (congrArg (Value.int .i64) (by omega)) ?_
                refine XR_a (op_build (ps := [(0, nV 16), (1, nV (min r 6))]) (cs := #[nV 16, nV (min r 6)]) rfl rfl) rfl rfl ?_
                refine XR_wn (opl_store_whole (us := [nV 16, nV (min r 6)]) st 0 rfl rfl rfl rfl rfl (one_nV [16, _]) rfl) rfl rfl fun _ hp st => ?_
                simp only [List.set_cons_zero] at st
                refine XR_nil ?_
                refine X_ret (.cons (RV_agg rfl rfl rfl (st.cells 0 rfl)) .nil) ?_
                rw [hP, if_neg (by omega), if_neg (by omega), if_pos (by omega)]
                exact ⟨rfl, st.low⟩
              · have h3 := h
                refine X_skip ?_
                refine X_blk ?_
                refine X_seq ?_
                refine X_reg ?_
                refine XR_a (op_move rfl) rfl rfl ?_
                refine XR_a (op_move rfl) rfl rfl ?_
                first | refine XR_a (op_index1 rfl rfl rfl (by omega)) rfl rfl ?_ | refine XR_a (op_index rfl rfl rfl (by omega)) rfl rfl ?_
                refine XR_a (op_ld (hcx a ha) rfl rfl rfl) rfl rfl ?_
                refine XR_a (op_build (ps := [(0, nV (l.getD a 0)), (1, nV 1)]) (cs := #[nV (l.getD a 0), nV 1]) rfl rfl) rfl rfl ?_
                refine XR_wn (opl_store_whole (us := [nV (l.getD a 0), nV 1]) st 0 rfl rfl rfl rfl rfl (one_nV [_, 1]) rfl) rfl rfl fun _ hp st => ?_
                simp only [List.set_cons_zero] at st
                refine XR_nil ?_
                refine X_ret (.cons (RV_agg rfl rfl rfl (st.cells 0 rfl)) .nil) ?_
                rw [hP, if_neg (by omega), if_neg (by omega), if_neg (by omega)]
                exact ⟨rfl, st.low⟩
            · have h49 := h
              refine XR_no rfl rfl ?_
              refine XR_no rfl rfl ?_
              refine XR_a (op_pick_f rfl rfl) rfl rfl ?_
              refine XR_a (op_assign rfl) rfl rfl ?_
              refine XR_nil ?_
              refine X_else rfl ?_
              refine X_skip ?_
              refine X_blk ?_
              refine X_seq ?_
              refine X_reg ?_
              refine XR_a (op_move rfl) rfl rfl ?_
              refine XR_a (op_move rfl) rfl rfl ?_
              first | refine XR_a (op_index1 rfl rfl rfl (by omega)) rfl rfl ?_ | refine XR_a (op_index rfl rfl rfl (by omega)) rfl rfl ?_
              refine XR_a (op_ld (hcx a ha) rfl rfl rfl) rfl rfl ?_
              refine XR_a (op_build (ps := [(0, nV (l.getD a 0)), (1, nV 1)]) (cs := #[nV (l.getD a 0), nV 1]) rfl rfl) rfl rfl ?_
              refine XR_wn (opl_store_whole (us := [nV (l.getD a 0), nV 1]) st 0 rfl rfl rfl rfl rfl (one_nV [_, 1]) rfl) rfl rfl fun _ hp st => ?_
              simp only [List.set_cons_zero] at st
              refine XR_nil ?_
              refine X_ret (.cons (RV_agg rfl rfl rfl (st.cells 0 rfl)) .nil) ?_
              rw [hP, if_neg (by omega), if_neg (by omega), if_neg (by omega)]
              exact ⟨rfl, st.low⟩
          · have h37 := h
            refine XR_no rfl rfl ?_
            refine XR_no rfl rfl ?_
            refine XR_no rfl rfl ?_
            refine XR_no rfl rfl ?_
            refine XR_no rfl rfl ?_
            refine XR_no rfl rfl ?_
            refine XR_no rfl rfl ?_
            refine XR_no rfl rfl ?_
            refine XR_no rfl rfl ?_
            refine XR_no rfl rfl ?_
            refine XR_a (op_pick_f rfl rfl) rfl rfl ?_
            refine XR_a (op_move rfl) rfl rfl ?_
            refine XR_no rfl rfl ?_
            refine XR_no rfl rfl ?_
            refine XR_a (op_pick_f rfl rfl) rfl rfl ?_
            refine XR_a (op_assign rfl) rfl rfl ?_
            refine XR_nil ?_
            refine X_else rfl ?_
            refine X_skip ?_
            refine X_blk ?_
            refine X_seq ?_
            refine X_reg ?_
            refine XR_a (op_move rfl) rfl rfl ?_
            refine XR_a (op_move rfl) rfl rfl ?_
            first | refine XR_a (op_index1 rfl rfl rfl (by omega)) rfl rfl ?_ | refine XR_a (op_index rfl rfl rfl (by omega)) rfl rfl ?_
            refine XR_a (op_ld (hcx a ha) rfl rfl rfl) rfl rfl ?_
            refine XR_a (op_build (ps := [(0, nV (l.getD a 0)), (1, nV 1)]) (cs := #[nV (l.getD a 0), nV 1]) rfl rfl) rfl rfl ?_
            refine XR_wn (opl_store_whole (us := [nV (l.getD a 0), nV 1]) st 0 rfl rfl rfl rfl rfl (one_nV [_, 1]) rfl) rfl rfl fun _ hp st => ?_
            simp only [List.set_cons_zero] at st
            refine XR_nil ?_
            refine X_ret (.cons (RV_agg rfl rfl rfl (st.cells 0 rfl)) .nil) ?_
            rw [hP, if_neg (by omega), if_neg (by omega), if_neg (by omega)]
            exact ⟨rfl, st.low⟩
      · have h28 := h
        refine XR_no rfl rfl ?_
        refine XR_no rfl rfl ?_
        refine XR_a (op_pick_f rfl rfl) rfl rfl ?_
        refine XR_a (op_assign rfl) rfl rfl ?_
        refine XR_nil ?_
        refine X_else rfl ?_
        refine X_seq ?_
        refine X_draw byKind (by kernel_rfl) (by kernel_rfl) ?_
        refine XR_a (op_move rfl) rfl rfl ?_
        refine XR_a (op_gtr rfl rfl) rfl rfl ?_
        refine XR_a (op_move rfl) rfl rfl ?_
        refine XR_if 37 rfl (fun h => ?_) (fun h => ?_)
        · have h37 := h
          refine XR_a (op_move rfl) rfl rfl ?_
          refine XR_a (op_move rfl) rfl rfl ?_
          first | refine XR_a (op_index1 rfl rfl rfl (by omega)) rfl rfl ?_ | refine XR_a (op_index rfl rfl rfl (by omega)) rfl rfl ?_
          refine XR_a (op_ld (hcx a ha) rfl rfl rfl) rfl rfl ?_
          refine XR_a (op_move rfl) rfl rfl ?_
          refine XR_a (op_move rfl) rfl rfl ?_
          first | refine XR_a (op_subN (n := 1) rfl rfl (by omega) (by simp only [inK]; omega)) rfl rfl ?_ | refine XR_a (op_subI rfl rfl (by simp only [inK]; omega)) rfl rfl ?_ | refine XR_a (op_sub rfl rfl) rfl rfl ?_
          refine XR_a (op_index1 (i := a - 1) rfl rfl rfl (by omega)) rfl rfl ?_
          refine XR_a (op_ld (hcx (a - 1) (by omega)) rfl rfl rfl) rfl rfl ?_
          refine XR_a (op_eql rfl rfl) rfl rfl ?_
          refine XR_a (op_pick_t rfl rfl) rfl rfl ?_
          refine XR_a (op_move rfl) rfl rfl ?_
          refine XR_if 49 rfl (fun h => ?_) (fun h => ?_)
          · have h49 := h
            refine XR_a (op_move rfl) rfl rfl ?_
            refine XR_a (op_geq rfl rfl) rfl rfl ?_
            refine XR_a (op_pick_t rfl rfl) rfl rfl ?_
            refine XR_a (op_assign rfl) rfl rfl ?_
            refine XR_nil ?_
            refine X_if rfl (fun h => ?_) (fun h => ?_)
            · refine X_seq ?_
              refine X_reg ?_
              refine XR_a (op_move rfl) rfl rfl ?_
              refine XR_a (op_min2 rfl rfl) rfl rfl ?_
              refine XR_as (nV (min r 6)) (congrArg (Value.int .i64) (by omega)) ?_
              refine XR_a (op_build (ps := [(0, nV 16), (1, nV (min r 6))]) (cs := #[nV 16, nV (min r 6)]) rfl rfl) rfl rfl ?_
              refine XR_wn (opl_store_whole (us := [nV 16, nV (min r 6)]) st 0 rfl rfl rfl rfl rfl (one_nV [16, _]) rfl) rfl rfl fun _ hp st => ?_
              simp only [List.set_cons_zero] at st
              refine XR_nil ?_
              refine X_ret (.cons (RV_agg rfl rfl rfl (st.cells 0 rfl)) .nil) ?_
              rw [hP, if_neg (by omega), if_neg (by omega), if_pos (by omega)]
              exact ⟨rfl, st.low⟩
            · have h3 := h
              refine X_skip ?_
              refine X_blk ?_
              refine X_seq ?_
              refine X_reg ?_
              refine XR_a (op_move rfl) rfl rfl ?_
              refine XR_a (op_move rfl) rfl rfl ?_
              first | refine XR_a (op_index1 rfl rfl rfl (by omega)) rfl rfl ?_ | refine XR_a (op_index rfl rfl rfl (by omega)) rfl rfl ?_
              refine XR_a (op_ld (hcx a ha) rfl rfl rfl) rfl rfl ?_
              refine XR_a (op_build (ps := [(0, nV (l.getD a 0)), (1, nV 1)]) (cs := #[nV (l.getD a 0), nV 1]) rfl rfl) rfl rfl ?_
              refine XR_wn (opl_store_whole (us := [nV (l.getD a 0), nV 1]) st 0 rfl rfl rfl rfl rfl (one_nV [_, 1]) rfl) rfl rfl fun _ hp st => ?_
              simp only [List.set_cons_zero] at st
              refine XR_nil ?_
              refine X_ret (.cons (RV_agg rfl rfl rfl (st.cells 0 rfl)) .nil) ?_
              rw [hP, if_neg (by omega), if_neg (by omega), if_neg (by omega)]
              exact ⟨rfl, st.low⟩
          · have h49 := h
            refine XR_no rfl rfl ?_
            refine XR_no rfl rfl ?_
            refine XR_a (op_pick_f rfl rfl) rfl rfl ?_
            refine XR_a (op_assign rfl) rfl rfl ?_
            refine XR_nil ?_
            refine X_else rfl ?_
            refine X_skip ?_
            refine X_blk ?_
            refine X_seq ?_
            refine X_reg ?_
            refine XR_a (op_move rfl) rfl rfl ?_
            refine XR_a (op_move rfl) rfl rfl ?_
            first | refine XR_a (op_index1 rfl rfl rfl (by omega)) rfl rfl ?_ | refine XR_a (op_index rfl rfl rfl (by omega)) rfl rfl ?_
            refine XR_a (op_ld (hcx a ha) rfl rfl rfl) rfl rfl ?_
            refine XR_a (op_build (ps := [(0, nV (l.getD a 0)), (1, nV 1)]) (cs := #[nV (l.getD a 0), nV 1]) rfl rfl) rfl rfl ?_
            refine XR_wn (opl_store_whole (us := [nV (l.getD a 0), nV 1]) st 0 rfl rfl rfl rfl rfl (one_nV [_, 1]) rfl) rfl rfl fun _ hp st => ?_
            simp only [List.set_cons_zero] at st
            refine XR_nil ?_
            refine X_ret (.cons (RV_agg rfl rfl rfl (st.cells 0 rfl)) .nil) ?_
            rw [hP, if_neg (by omega), if_neg (by omega), if_neg (by omega)]
            exact ⟨rfl, st.low⟩
        · have h37 := h
          refine XR_no rfl rfl ?_
          refine XR_no rfl rfl ?_
          refine XR_no rfl rfl ?_
          refine XR_no rfl rfl ?_
          refine XR_no rfl rfl ?_
          refine XR_no rfl rfl ?_
          refine XR_no rfl rfl ?_
          refine XR_no rfl rfl ?_
          refine XR_no rfl rfl ?_
          refine XR_no rfl rfl ?_
          refine XR_a (op_pick_f rfl rfl) rfl rfl ?_
          refine XR_a (op_move rfl) rfl rfl ?_
          refine XR_no rfl rfl ?_
          refine XR_no rfl rfl ?_
          refine XR_a (op_pick_f rfl rfl) rfl rfl ?_
          refine XR_a (op_assign rfl) rfl rfl ?_
          refine XR_nil ?_
          refine X_else rfl ?_
          refine X_skip ?_
          refine X_blk ?_
          refine X_seq ?_
          refine X_reg ?_
          refine XR_a (op_move rfl) rfl rfl ?_
          refine XR_a (op_move rfl) rfl rfl ?_
          first | refine XR_a (op_index1 rfl rfl rfl (by omega)) rfl rfl ?_ | refine XR_a (op_index rfl rfl rfl (by omega)) rfl rfl ?_
          refine XR_a (op_ld (hcx a ha) rfl rfl rfl) rfl rfl ?_
          refine XR_a (op_build (ps := [(0, nV (l.getD a 0)), (1, nV 1)]) (cs := #[nV (l.getD a 0), nV 1]) rfl rfl) rfl rfl ?_
          refine XR_wn (opl_store_whole (us := [nV (l.getD a 0), nV 1]) st 0 rfl rfl rfl rfl rfl (one_nV [_, 1]) rfl) rfl rfl fun _ hp st => ?_
          simp only [List.set_cons_zero] at st
          refine XR_nil ?_
          refine X_ret (.cons (RV_agg rfl rfl rfl (st.cells 0 rfl)) .nil) ?_
          rw [hP, if_neg (by omega), if_neg (by omega), if_neg (by omega)]
          exact ⟨rfl, st.low⟩
  · have h15 := h
    refine XR_no rfl rfl ?_
    refine XR_no rfl rfl ?_
    refine XR_a (op_pick_f rfl rfl) rfl rfl ?_
    refine XR_a (op_assign rfl) rfl rfl ?_
    refine XR_nil ?_
    refine X_else rfl ?_
    refine X_seq ?_
    refine X_reg ?_
    refine XR_a (op_move rfl) rfl rfl ?_
    refine XR_a (op_move rfl) rfl rfl ?_
    first | refine XR_a (op_index1 rfl rfl rfl (by omega)) rfl rfl ?_ | refine XR_a (op_index rfl rfl rfl (by omega)) rfl rfl ?_
    refine XR_a (op_ld (hcx a ha) rfl rfl rfl) rfl rfl ?_
    refine XR_a (op_eql rfl rfl) rfl rfl ?_
    refine XR_a (op_move rfl) rfl rfl ?_
    refine XR_if 28 rfl (fun h => ?_) (fun h => ?_)
    · have h28 := h
      refine XR_a (op_move rfl) rfl rfl ?_
      refine XR_a (op_geq rfl rfl) rfl rfl ?_
      refine XR_a (op_pick_t rfl rfl) rfl rfl ?_
      refine XR_a (op_assign rfl) rfl rfl ?_
      refine XR_nil ?_
      refine X_if rfl (fun h => ?_) (fun h => ?_)
      · refine X_seq ?_
        refine X_reg ?_
        refine XR_a (op_move rfl) rfl rfl ?_
        refine XR_a (op_build (ps := [(0, nV 17), (1, nV r)]) (cs := #[nV 17, nV r]) rfl rfl) rfl rfl ?_
        refine XR_wn (opl_store_whole (us := [nV 17, nV r]) st 0 rfl rfl rfl rfl rfl (one_nV [17, _]) rfl) rfl rfl fun _ hp st => ?_
        simp only [List.set_cons_zero] at st
        refine XR_nil ?_
        refine X_ret (.cons (RV_agg rfl rfl rfl (st.cells 0 rfl)) .nil) ?_
        rw [hP, if_neg (by omega), if_pos (by omega)]
        exact ⟨rfl, st.low⟩
      · have h2 := h
        refine X_seq ?_
        refine X_draw byKind (by kernel_rfl) (by kernel_rfl) ?_
        refine XR_a (op_move rfl) rfl rfl ?_
        refine XR_a (op_gtr rfl rfl) rfl rfl ?_
        refine XR_a (op_move rfl) rfl rfl ?_
        refine XR_if 37 rfl (fun h => ?_) (fun h => ?_)
        · have h37 := h
          refine XR_a (op_move rfl) rfl rfl ?_
          refine XR_a (op_move rfl) rfl rfl ?_
          first | refine XR_a (op_index1 rfl rfl rfl (by omega)) rfl rfl ?_ | refine XR_a (op_index rfl rfl rfl (by omega)) rfl rfl ?_
          refine XR_a (op_ld (hcx a ha) rfl rfl rfl) rfl rfl ?_
          refine XR_a (op_move rfl) rfl rfl ?_
          refine XR_a (op_move rfl) rfl rfl ?_
          first | refine XR_a (op_subN (n := 1) rfl rfl (by omega) (by simp only [inK]; omega)) rfl rfl ?_ | refine XR_a (op_subI rfl rfl (by simp only [inK]; omega)) rfl rfl ?_ | refine XR_a (op_sub rfl rfl) rfl rfl ?_
          refine XR_a (op_index1 (i := a - 1) rfl rfl rfl (by omega)) rfl rfl ?_
          refine XR_a (op_ld (hcx (a - 1) (by omega)) rfl rfl rfl) rfl rfl ?_
          refine XR_a (op_eql rfl rfl) rfl rfl ?_
          refine XR_a (op_pick_t rfl rfl) rfl rfl ?_
          refine XR_a (op_move rfl) rfl rfl ?_
          refine XR_if 49 rfl (fun h => ?_) (fun h => ?_)
          · have h49 := h
            refine XR_a (op_move rfl) rfl rfl ?_
            refine XR_a (op_geq rfl rfl) rfl rfl ?_
            refine XR_a (op_pick_t rfl rfl) rfl rfl ?_
            refine XR_a (op_assign rfl) rfl rfl ?_
            refine XR_nil ?_
            refine X_if rfl (fun h => ?_) (fun h => ?_)
            · refine X_seq ?_
              refine X_reg ?_
              refine XR_a (op_move rfl) rfl rfl ?_
              refine XR_a (op_min2 rfl rfl) rfl rfl ?_
              refine XR_as (nV (min r 6)) (congrArg (Value.int .i64) (by omega)) ?_
              refine XR_a (op_build (ps := [(0, nV 16), (1, nV (min r 6))]) (cs := #[nV 16, nV (min r 6)]) rfl rfl) rfl rfl ?_
              refine XR_wn (opl_store_whole (us := [nV 16, nV (min r 6)]) st 0 rfl rfl rfl rfl rfl (one_nV [16, _]) rfl) rfl rfl fun _ hp st => ?_
              simp only [List.set_cons_zero] at st
              refine XR_nil ?_
              refine X_ret (.cons (RV_agg rfl rfl rfl (st.cells 0 rfl)) .nil) ?_
              rw [hP, if_neg (by omega), if_neg (by omega), if_pos (by omega)]
              exact ⟨rfl, st.low⟩
            · have h3 := h
              refine X_skip ?_
              refine X_blk ?_
              refine X_seq ?_
              refine X_reg ?_
              refine XR_a (op_move rfl) rfl rfl ?_
              refine XR_a (op_move rfl) rfl rfl ?_
              first | refine XR_a (op_index1 rfl rfl rfl (by omega)) rfl rfl ?_ | refine XR_a (op_index rfl rfl rfl (by omega)) rfl rfl ?_
              refine XR_a (op_ld (hcx a ha) rfl rfl rfl) rfl rfl ?_
              refine XR_a (op_build (ps := [(0, nV (l.getD a 0)), (1, nV 1)]) (cs := #[nV (l.getD a 0), nV 1]) rfl rfl) rfl rfl ?_
              refine XR_wn (opl_store_whole (us := [nV (l.getD a 0), nV 1]) st 0 rfl rfl rfl rfl rfl (one_nV [_, 1]) rfl) rfl rfl fun _ hp st => ?_
              simp only [List.set_cons_zero] at st
              refine XR_nil ?_
              refine X_ret (.cons (RV_agg rfl rfl rfl (st.cells 0 rfl)) .nil) ?_
              rw [hP, if_neg (by omega), if_neg (by omega), if_neg (by omega)]
              exact ⟨rfl, st.low⟩
          · have h49 := h
            refine XR_no rfl rfl ?_
            refine XR_no rfl rfl ?_
            refine XR_a (op_pick_f rfl rfl) rfl rfl ?_
            refine XR_a (op_assign rfl) rfl rfl ?_
            refine XR_nil ?_
            refine X_else rfl ?_
            refine X_skip ?_
            refine X_blk ?_
            refine X_seq ?_
            refine X_reg ?_
            refine XR_a (op_move rfl) rfl rfl ?_
            refine XR_a (op_move rfl) rfl rfl ?_
            first | refine XR_a (op_index1 rfl rfl rfl (by omega)) rfl rfl ?_ | refine XR_a (op_index rfl rfl rfl (by omega)) rfl rfl ?_
            refine XR_a (op_ld (hcx a ha) rfl rfl rfl) rfl rfl ?_
            refine XR_a (op_build (ps := [(0, nV (l.getD a 0)), (1, nV 1)]) (cs := #[nV (l.getD a 0), nV 1]) rfl rfl) rfl rfl ?_
            refine XR_wn (opl_store_whole (us := [nV (l.getD a 0), nV 1]) st 0 rfl rfl rfl rfl rfl (one_nV [_, 1]) rfl) rfl rfl fun _ hp st => ?_
            simp only [List.set_cons_zero] at st
            refine XR_nil ?_
            refine X_ret (.cons (RV_agg rfl rfl rfl (st.cells 0 rfl)) .nil) ?_
            rw [hP, if_neg (by omega), if_neg (by omega), if_neg (by omega)]
            exact ⟨rfl, st.low⟩
        · have h37 := h
          refine XR_no rfl rfl ?_
          refine XR_no rfl rfl ?_
          refine XR_no rfl rfl ?_
          refine XR_no rfl rfl ?_
          refine XR_no rfl rfl ?_
          refine XR_no rfl rfl ?_
          refine XR_no rfl rfl ?_
          refine XR_no rfl rfl ?_
          refine XR_no rfl rfl ?_
          refine XR_no rfl rfl ?_
          refine XR_a (op_pick_f rfl rfl) rfl rfl ?_
          refine XR_a (op_move rfl) rfl rfl ?_
          refine XR_no rfl rfl ?_
          refine XR_no rfl rfl ?_
          refine XR_a (op_pick_f rfl rfl) rfl rfl ?_
          refine XR_a (op_assign rfl) rfl rfl ?_
          refine XR_nil ?_
          refine X_else rfl ?_
          refine X_skip ?_
          refine X_blk ?_
          refine X_seq ?_
          refine X_reg ?_
          refine XR_a (op_move rfl) rfl rfl ?_
          refine XR_a (op_move rfl) rfl rfl ?_
          first | refine XR_a (op_index1 rfl rfl rfl (by omega)) rfl rfl ?_ | refine XR_a (op_index rfl rfl rfl (by omega)) rfl rfl ?_
          refine XR_a (op_ld (hcx a ha) rfl rfl rfl) rfl rfl ?_
          refine XR_a (op_build (ps := [(0, nV (l.getD a 0)), (1, nV 1)]) (cs := #[nV (l.getD a 0), nV 1]) rfl rfl) rfl rfl ?_
          refine XR_wn (opl_store_whole (us := [nV (l.getD a 0), nV 1]) st 0 rfl rfl rfl rfl rfl (one_nV [_, 1]) rfl) rfl rfl fun _ hp st => ?_
          simp only [List.set_cons_zero] at st
          refine XR_nil ?_
          refine X_ret (.cons (RV_agg rfl rfl rfl (st.cells 0 rfl)) .nil) ?_
          rw [hP, if_neg (by omega), if_neg (by omega), if_neg (by omega)]
          exact ⟨rfl, st.low⟩
    · have h28 := h
      refine XR_no rfl rfl ?_
      refine XR_no rfl rfl ?_
      refine XR_a (op_pick_f rfl rfl) rfl rfl ?_
      refine XR_a (op_assign rfl) rfl rfl ?_
      refine XR_nil ?_
      refine X_else rfl ?_
      refine X_seq ?_
      refine X_draw byKind (by kernel_rfl) (by kernel_rfl) ?_
      refine XR_a (op_move rfl) rfl rfl ?_
      refine XR_a (op_gtr rfl rfl) rfl rfl ?_
      refine XR_a (op_move rfl) rfl rfl ?_
      refine XR_if 37 rfl (fun h => ?_) (fun h => ?_)
      · have h37 := h
        refine XR_a (op_move rfl) rfl rfl ?_
        refine XR_a (op_move rfl) rfl rfl ?_
        first | refine XR_a (op_index1 rfl rfl rfl (by omega)) rfl rfl ?_ | refine XR_a (op_index rfl rfl rfl (by omega)) rfl rfl ?_
        refine XR_a (op_ld (hcx a ha) rfl rfl rfl) rfl rfl ?_
        refine XR_a (op_move rfl) rfl rfl ?_
        refine XR_a (op_move rfl) rfl rfl ?_
        first | refine XR_a (op_subN (n := 1) rfl rfl (by omega) (by simp only [inK]; omega)) rfl rfl ?_ | refine XR_a (op_subI rfl rfl (by simp only [inK]; omega)) rfl rfl ?_ | refine XR_a (op_sub rfl rfl) rfl rfl ?_
        refine XR_a (op_index1 (i := a - 1) rfl rfl rfl (by omega)) rfl rfl ?_
        refine XR_a (op_ld (hcx (a - 1) (by omega)) rfl rfl rfl) rfl rfl ?_
        refine XR_a (op_eql rfl rfl) rfl rfl ?_
        refine XR_a (op_pick_t rfl rfl) rfl rfl ?_
        refine XR_a (op_move rfl) rfl rfl ?_
        refine XR_if 49 rfl (fun h => ?_) (fun h => ?_)
        · have h49 := h
          refine XR_a (op_move rfl) rfl rfl ?_
          refine XR_a (op_geq rfl rfl) rfl rfl ?_
          refine XR_a (op_pick_t rfl rfl) rfl rfl ?_
          refine XR_a (op_assign rfl) rfl rfl ?_
          refine XR_nil ?_
          refine X_if rfl (fun h => ?_) (fun h => ?_)
          · refine X_seq ?_
            refine X_reg ?_
            refine XR_a (op_move rfl) rfl rfl ?_
            refine XR_a (op_min2 rfl rfl) rfl rfl ?_
            refine XR_as (nV (min r 6)) (congrArg (Value.int .i64) (by omega)) ?_
            refine XR_a (op_build (ps := [(0, nV 16), (1, nV (min r 6))]) (cs := #[nV 16, nV (min r 6)]) rfl rfl) rfl rfl ?_
            refine XR_wn (opl_store_whole (us := [nV 16, nV (min r 6)]) st 0 rfl rfl rfl rfl rfl (one_nV [16, _]) rfl) rfl rfl fun _ hp st => ?_
            simp only [List.set_cons_zero] at st
            refine XR_nil ?_
            refine X_ret (.cons (RV_agg rfl rfl rfl (st.cells 0 rfl)) .nil) ?_
            rw [hP, if_neg (by omega), if_neg (by omega), if_pos (by omega)]
            exact ⟨rfl, st.low⟩
          · have h3 := h
            refine X_skip ?_
            refine X_blk ?_
            refine X_seq ?_
            refine X_reg ?_
            refine XR_a (op_move rfl) rfl rfl ?_
            refine XR_a (op_move rfl) rfl rfl ?_
            first | refine XR_a (op_index1 rfl rfl rfl (by omega)) rfl rfl ?_ | refine XR_a (op_index rfl rfl rfl (by omega)) rfl rfl ?_
            refine XR_a (op_ld (hcx a ha) rfl rfl rfl) rfl rfl ?_
            refine XR_a (op_build (ps := [(0, nV (l.getD a 0)), (1, nV 1)]) (cs := #[nV (l.getD a 0), nV 1]) rfl rfl) rfl rfl ?_
            refine XR_wn (opl_store_whole (us := [nV (l.getD a 0), nV 1]) st 0 rfl rfl rfl rfl rfl (one_nV [_, 1]) rfl) rfl rfl fun _ hp st => ?_
            simp only [List.set_cons_zero] at st
            refine XR_nil ?_
            refine X_ret (.cons (RV_agg rfl rfl rfl (st.cells 0 rfl)) .nil) ?_
            rw [hP, if_neg (by omega), if_neg (by omega), if_neg (by omega)]
            exact ⟨rfl, st.low⟩
        · have h49 := h
          refine XR_no rfl rfl ?_
          refine XR_no rfl rfl ?_
          refine XR_a (op_pick_f rfl rfl) rfl rfl ?_
          refine XR_a (op_assign rfl) rfl rfl ?_
          refine XR_nil ?_
          refine X_else rfl ?_
          refine X_skip ?_
          refine X_blk ?_
          refine X_seq ?_
          refine X_reg ?_
          refine XR_a (op_move rfl) rfl rfl ?_
          refine XR_a (op_move rfl) rfl rfl ?_
          first | refine XR_a (op_index1 rfl rfl rfl (by omega)) rfl rfl ?_ | refine XR_a (op_index rfl rfl rfl (by omega)) rfl rfl ?_
          refine XR_a (op_ld (hcx a ha) rfl rfl rfl) rfl rfl ?_
          refine XR_a (op_build (ps := [(0, nV (l.getD a 0)), (1, nV 1)]) (cs := #[nV (l.getD a 0), nV 1]) rfl rfl) rfl rfl ?_
          refine XR_wn (opl_store_whole (us := [nV (l.getD a 0), nV 1]) st 0 rfl rfl rfl rfl rfl (one_nV [_, 1]) rfl) rfl rfl fun _ hp st => ?_
          simp only [List.set_cons_zero] at st
          refine XR_nil ?_
          refine X_ret (.cons (RV_agg rfl rfl rfl (st.cells 0 rfl)) .nil) ?_
          rw [hP, if_neg (by omega), if_neg (by omega), if_neg (by omega)]
          exact ⟨rfl, st.low⟩
      · have h37 := h
        refine XR_no rfl rfl ?_
        refine XR_no rfl rfl ?_
        refine XR_no rfl rfl ?_
        refine XR_no rfl rfl ?_
        refine XR_no rfl rfl ?_
        refine XR_no rfl rfl ?_
        refine XR_no rfl rfl ?_
        refine XR_no rfl rfl ?_
        refine XR_no rfl rfl ?_
        refine XR_no rfl rfl ?_
        refine XR_a (op_pick_f rfl rfl) rfl rfl ?_
        refine XR_a (op_move rfl) rfl rfl ?_
        refine XR_no rfl rfl ?_
        refine XR_no rfl rfl ?_
        refine XR_a (op_pick_f rfl rfl) rfl rfl ?_
        refine XR_a (op_assign rfl) rfl rfl ?_
        refine XR_nil ?_
        refine X_else rfl ?_
        refine X_skip ?_
        refine X_blk ?_
        refine X_seq ?_
        refine X_reg ?_
        refine XR_a (op_move rfl) rfl rfl ?_
        refine XR_a (op_move rfl) rfl rfl ?_
        first | refine XR_a (op_index1 rfl rfl rfl (by omega)) rfl rfl ?_ | refine XR_a (op_index rfl rfl rfl (by omega)) rfl rfl ?_
        refine XR_a (op_ld (hcx a ha) rfl rfl rfl) rfl rfl ?_
        refine XR_a (op_build (ps := [(0, nV (l.getD a 0)), (1, nV 1)]) (cs := #[nV (l.getD a 0), nV 1]) rfl rfl) rfl rfl ?_
        refine XR_wn (opl_store_whole (us := [nV (l.getD a 0), nV 1]) st 0 rfl rfl rfl rfl rfl (one_nV [_, 1]) rfl) rfl rfl fun _ hp st => ?_
        simp only [List.set_cons_zero] at st
        refine XR_nil ?_
        refine X_ret (.cons (RV_agg rfl rfl rfl (st.cells 0 rfl)) .nil) ?_
        rw [hP, if_neg (by omega), if_neg (by omega), if_neg (by omega)]
        exact ⟨rfl, st.low⟩

theorem rparts_spec {n c : Nat} {A : Option Addr} {h0 : Heap} : Ret Try.prog 88 [.slice A n c] h0 fun v h' => ∃ p, v = .func (.func 121) #[] #[.pointer (some ⟨p, 0, none⟩)] ∧ St h0.size h0 h' [pt p 49 [.slice A n c]] := by
  refine ret_of_X Try.func88 rfl rfl fun w0 hw0 => ?_
  simp only [argE, Nat.zero_add, Nat.reduceAdd]
  have st := St.start h0
  refine X_seq ?_
  refine X_reg ?_
  refine XR_wa (opl_bx rfl rfl) rfl rfl rfl ?_
  rintro _ hp ⟨p, rfl, hnew⟩
  replace st := st.new hnew
  refine XR_a (op_assign rfl) rfl rfl ?_
  refine XR_nil ?_
  refine X_seq ?_
  refine X_reg ?_
  refine XR_a (op_mkFunc rfl) rfl rfl ?_
  refine XR_a (op_assign rfl) rfl rfl ?_
  refine XR_nil ?_
  refine X_ret (.cons (.tmp rfl) .nil) ?_
  exact ⟨_, rfl, st⟩

theorem parts_iter {B y p n c : Nat} {A : Option Addr} {l : List Nat} {F : List Res} {h0 : Heap} (JR : List (Nat × Nat) → List Res) (st0 : St B h0 h0 (pt p 49 [.slice A n c] :: (JR [] ++ F)))
    (hr : ∀ h', Low B h0 h' → Rd h' A (l.map nV)) (hl : l.length = n) (hn : n ≤ 1048576)
    (hround : ∀ (s : List (Nat × Nat)) (x : Nat × Nat) (r : List (Nat × Nat)) (F' : List Res) (h : Heap), Low B h0 h → s ++ x :: r = partsL l 0 → St B h h (JR s ++ F') → RRet Try.prog y [.agg (pC2 x).toArray] h fun u h' => u = .bool true ∧ St B h h' (JR (s ++ [x]) ++ F')) :
    Ret Try.prog 121 [.func (.yield y) #[] #[], .pointer (some ⟨p, 0, none⟩)] h0 fun _ h' => St B h0 h' (JR (partsL l 0) ++ F) := by
  refine ret_of_X Try.func121 rfl rfl fun w0 hw0 => ?_
  simp only [argE, Nat.zero_add, Nat.reduceAdd]
  refine X_seq ?_
  refine X_reg ?_
  refine XR_a (op_assign rfl) rfl rfl ?_
  refine XR_nil ?_
  refine X_block ?_
  refine X_loop (fun s => n - s.1) (fun s => [(0, .func (.yield y) #[] #[]), (1, .pointer (some ⟨p, 0, none⟩)), (3, nV s.1)])
    (fun (s : Nat × List (Nat × Nat)) hp => s.1 ≤ n ∧ s.2 ++ partsL l s.1 = partsL l 0 ∧ St B h0 hp (pt p 49 [.slice A n c] :: (JR s.2 ++ F)))
    (0, []) (.cons rfl (.cons rfl (.cons rfl (.nil _)))) ⟨Nat.zero_le _, rfl, st0⟩ ?_
  rintro ⟨a, s⟩ hp ⟨ha, hs, st⟩
  simp only at ha hs st ⊢
  refine X_seq ?_
  refine X_seq ?_
  refine X_reg ?_
  refine XR_a (op_move rfl) rfl rfl ?_
  refine XR_a (op_ld (st.cell 0 (i := 0) rfl rfl) rfl rfl rfl) rfl rfl ?_
  refine XR_a (op_len rfl rfl rfl) rfl rfl ?_
  refine XR_a (op_lss rfl rfl) rfl rfl ?_
  refine XR_nil ?_
  refine X_if rfl (fun h => ?_) (fun h => ?_)
  · have hpm := partAt_many (l := l) (at_ := a) (by omega)
    have hrl := runAt_le l a
    rw [partsL_cons (by omega)] at hs
    refine X_skip ?_
    refine X_block ?_
    refine X_seq ?_
    refine X_reg ?_
    refine XR_a (op_ld (st.cell 0 (i := 0) rfl rfl) rfl rfl rfl) rfl rfl ?_
    refine XR_a (op_move rfl) rfl rfl ?_
    refine XR_wa (opl_call (rpart_spec (hr hp st.low) hl (by omega) (by omega)) rfl (by kernel_rfl)) rfl rfl rfl ?_
    rintro _ hp2 ⟨rfl, hx2⟩
    replace st := st.ext hx2
    obtain ⟨x, hx⟩ : ∃ x, partAt l a = x := ⟨_, rfl⟩
    rw [hx] at hs hpm ⊢
    refine XR_wa (opl_new rfl) rfl rfl rfl ?_
    rintro _ hp ⟨p4, rfl, hnew⟩
    replace st := st.new hnew
    refine XR_wn (opl_store_whole (us := pC2 x) st 0 rfl rfl rfl rfl rfl (one_pC2 x) rfl) rfl rfl fun _ hp st => ?_
    simp only [List.set_cons_zero] at st
    have st3 := st.perm (List.perm_append_comm_assoc [pt p4 120 (pC2 x), pt p 49 [.slice A n c]] (JR s) F)
    refine XR_nil ?_
    refine X_seq ?_
    refine X_seq ?_
    refine X_reg ?_
    refine XR_a (op_move rfl) rfl rfl ?_
    refine XR_a (op_ldA (vs := pC2 x) (st.cells 0 rfl) rfl rfl rfl rfl) rfl rfl ?_
    refine XR_ya (opy_yield rfl (hround s x _ _ _ st3.low hs st3.here) rfl) rfl rfl rfl ?_
    rintro _ hp3 ⟨rfl, st4⟩
    replace st := (st3.trans st4).perm (List.perm_append_comm_assoc (JR (s ++ [x])) [pt p4 120 (pC2 x), pt p 49 [.slice A n c]] F)
    first | refine XR_a (op_notd rfl) rfl rfl ?_ | refine XR_a (op_not rfl) rfl rfl ?_
    refine XR_nil ?_
    refine X_else rfl ?_
    refine X_skip ?_
    refine X_reg ?_
    refine XR_a (op_move rfl) rfl rfl ?_
    first | refine XR_a (op_field0 rfl rfl) rfl rfl ?_ | refine XR_a (op_fieldn rfl rfl) rfl rfl ?_
    refine XR_a (op_ld (st.cell 0 (i := 1) rfl rfl) rfl rfl rfl) rfl rfl ?_
    first | refine XR_a (op_addN rfl rfl (by simp only [inK]; omega)) rfl rfl ?_ | refine XR_a (op_addI rfl rfl (by simp only [inK]; omega)) rfl rfl ?_ | refine XR_a (op_add rfl rfl) rfl rfl ?_
    refine XR_a (op_assign rfl) rfl rfl ?_
    refine XR_nil ?_
    refine X_blk ?_
    exact X_again (a + x.2, s ++ [x]) (.cons rfl (.cons rfl (.cons rfl (.nil _)))) ⟨by simp only; omega, by simp only; rw [List.append_assoc]; exact hs, st.tail⟩ (by simp only; omega)
  · refine X_exit rfl ?_
    refine X_end .nil ?_
    rw [partsL_end (by omega), List.append_nil] at hs
    rw [← hs]
    exact st.tail

theorem appendSeq_parts {B gf : Nat} {lb : List Value} {P : List (Nat × Nat)} {F : List Res} {h0 : Heap} (st0 : St B h0 h0 F) (hc : callOk Try.prog gf = true) (hP : P.length ≤ 1048576)
    (hiter : ∀ (JR : List (Nat × Nat) → List Res) (G : List Res) (y : Nat) (h : Heap), Low B h0 h → St B h h (F ++ (JR [] ++ G)) →
      (∀ (s : List (Nat × Nat)) (x : Nat × Nat) (r : List (Nat × Nat)) (F' : List Res) (h' : Heap), Low B h h' → s ++ x :: r = P → St B h' h' (JR s ++ F') → RRet Try.prog y [.agg (pC2 x).toArray] h' fun u h'' => u = .bool true ∧ St B h' h'' (JR (s ++ [x]) ++ F')) →
      Ret Try.prog gf (.func (.yield y) #[] #[] :: lb) h fun _ h' => St B h h' (JR P ++ G)) :
    Ret Try.prog 126 [.slice none 0 0, .func (.func gf) #[] lb.toArray] h0 fun v h' => St B h0 h' [Bn.row 120 2 v (P.flatMap pC2)] := by
  refine ret_of_X Try.func126 rfl rfl fun w0 hw0 => ?_
  simp only [argE, Nat.zero_add, Nat.reduceAdd]
  refine X_seq ?_
  refine X_reg ?_
  refine XR_wa (opl_bx rfl rfl) rfl rfl rfl ?_
  rintro _ hp ⟨p, rfl, hnew⟩
  have st := (st0.new hnew).nilrow 120 2
  refine XR_a (op_assign rfl) rfl rfl ?_
  refine XR_nil ?_
  refine X_seq ?_
  refine X_seq ?_
  refine X_reg ?_
  refine XR_a (op_move rfl) rfl rfl ?_
  refine XR_nil ?_
  refine X_block ?_
  refine X_rangeS st rfl rfl hc fun fn tmps L y d hp1 hL hok hx1 st1 => ?_
  obtain ⟨JR, hJR⟩ : ∃ JR : List (Nat × Nat) → List Res, JR = fun s => [obj y (L .ready none), exR fun v => starR (Bn.row 120 2 v (s.flatMap pC2)) (pt p 78 [v])] := ⟨_, rfl⟩
  have st2 : St B h0 hp1 (F ++ (JR [] ++ [obj d (.deferred (some []))])) := by
    have s3 : St B h0 hp1 (Bn.row 120 2 (.slice none 0 0) [] :: pt p 78 [.slice none 0 0] :: obj y (L .ready none) :: obj d (.deferred (some [])) :: F) :=
      st1.perm (List.perm_append_comm_assoc [obj y (L .ready none), obj d (.deferred (some []))] [Bn.row 120 2 (.slice none 0 0) [], pt p 78 [.slice none 0 0]] F)
    have s4 : St B h0 hp1 ((exR fun v => starR (Bn.row 120 2 v (([] : List (Nat × Nat)).flatMap pC2)) (pt p 78 [v])) :: obj y (L .ready none) :: obj d (.deferred (some [])) :: F) := St.ex.2 ⟨Value.slice none 0 0, St.star.2 s3⟩
    have s5 := s4.perm ((List.Perm.swap _ _ _).trans (List.perm_append_comm (l₁ := [obj y (L .ready none), exR fun v => starR (Bn.row 120 2 v (([] : List (Nat × Nat)).flatMap pC2)) (pt p 78 [v]), obj d (.deferred (some []))]) (l₂ := F)))
    rw [hJR]; exact s5
  refine Ret.mono (hiter JR [obj d (.deferred (some []))] y hp1 st2.low st2.here ?_) ?_
  · intro s u0 r F' h hlow hsP st3
    subst hL
    subst hJR
    simp only [List.cons_append, List.nil_append] at st3
    have hsl : s.length < P.length := by rw [← hsP]; simp
    obtain ⟨v9, st3⟩ := St.ex.1 (st3.perm (List.Perm.swap _ _ _))
    have st := (St.star.1 st3)
    refine rret_of_X (st.obj_at 2 rfl) hok rfl rfl fun w0 hw0 => ?_
    simp only [penv]
    refine X_reg ?_
    refine XR_wa (opl_new rfl) rfl rfl rfl ?_
    rintro _ hp ⟨p5, rfl, hnew⟩
    replace st := st.new hnew
    refine XR_wn (opl_store_whole (us := pC2 u0) st 0 rfl rfl rfl rfl rfl (one_pC2 u0) rfl) rfl rfl fun _ hp st => ?_
    simp only [List.set_cons_zero] at st
    refine XR_nil ?_
    refine X_begin (st.obj_at 3 rfl) ?_
    replace st := st.loop 3 .busy none rfl
    simp only [List.set_cons_zero, List.set_cons_succ] at st
    refine X_block ?_
    refine X_reg ?_
    refine XR_a (op_ld (st.cell 2 (i := 0) rfl rfl) rfl rfl rfl) rfl rfl ?_
    refine XR_a (op_ldA (vs := pC2 u0) (st.cells 0 rfl) rfl rfl rfl rfl) rfl rfl ?_
    refine XR_wa (opl_varA (us := pC2 u0) rfl rfl rfl rfl (by kernel_rfl)) rfl rfl rfl ?_
    rintro _ hp ⟨A, rfl, hx, hrd⟩
    replace st := st.ext hx
    refine XR_wa (opl_append st 1 rfl (hrd) (rfl) (one_pC2 u0) (by rw [flat_length _ 2 (fun _ => rfl)]; simp [pC2]; omega) rfl rfl rfl rfl rfl rfl rfl) rfl rfl rfl fun v hp st => ?_
    simp only [List.set_cons_zero, List.set_cons_succ] at st
    have e2 : s.flatMap pC2 ++ pC2 u0 = (s ++ [u0]).flatMap pC2 := by rw [List.flatMap_append]; simp
    rw [e2] at st
    obtain ⟨A6, n6, c6, rfl, _⟩ := st.row 1 rfl
    refine XR_wn (opl_store_pt st 2 rfl rfl rfl rfl rfl (rfl)) rfl rfl fun _ hp st => ?_
    simp only [List.set_cons_zero, List.set_cons_succ] at st
    refine XR_nil ?_
    refine X_blk ?_
    refine X_rnd (st.obj_at 3 rfl) ⟨rfl, ?_⟩
    replace st := st.loop 3 .ready none rfl
    simp only [List.set_cons_zero, List.set_cons_succ] at st
    have s6 := (St.ex.2 ⟨_, St.star.2 st.tail⟩ : St B h _ ((exR fun v => starR (Bn.row 120 2 v ((s ++ [u0]).flatMap pC2)) (pt p 78 [v])) :: _))
    exact s6.perm (List.Perm.swap _ _ _)
  rintro _ h' st3
  subst hJR
  simp only [List.cons_append, List.nil_append] at st3
  refine .inl ⟨_, st2.trans st3, fun hp3 st4 => ?_⟩
  obtain ⟨v9, st4⟩ := St.ex.1 (st4.perm (List.Perm.swap _ _ _))
  have st := St.star.1 st4
  refine X_blk ?_
  refine X_seq ?_
  refine X_reg ?_
  refine XR_a (op_ld (st.cell 1 (i := 0) rfl rfl) rfl rfl rfl) rfl rfl ?_
  refine XR_a (op_assign rfl) rfl rfl ?_
  refine XR_nil ?_
  refine X_retM (d := d) (.cons (.tmp rfl) .nil) ?_ (st.obj_at 3 rfl)
  replace st := st.put 3 (.deferred none) rfl
  exact st.keep 1

theorem collect_parts {B gf : Nat} {lb : List Value} {P : List (Nat × Nat)} {F : List Res} {h0 : Heap} (st0 : St B h0 h0 F) (hc : callOk Try.prog gf = true) (hP : P.length ≤ 1048576)
    (hiter : ∀ (JR : List (Nat × Nat) → List Res) (G : List Res) (y : Nat) (h : Heap), Low B h0 h → St B h h (F ++ (JR [] ++ G)) →
      (∀ (s : List (Nat × Nat)) (x : Nat × Nat) (r : List (Nat × Nat)) (F' : List Res) (h' : Heap), Low B h h' → s ++ x :: r = P → St B h' h' (JR s ++ F') → RRet Try.prog y [.agg (pC2 x).toArray] h' fun u h'' => u = .bool true ∧ St B h' h'' (JR (s ++ [x]) ++ F')) →
      Ret Try.prog gf (.func (.yield y) #[] #[] :: lb) h fun _ h' => St B h h' (JR P ++ G)) :
    Ret Try.prog 95 [.func (.func gf) #[] lb.toArray] h0 fun v h' => St B h0 h' [Bn.row 120 2 v (P.flatMap pC2)] := by
  refine ret_of_X Try.func95 rfl rfl fun w0 hw0 => ?_
  simp only [argE, Nat.zero_add, Nat.reduceAdd]
  refine X_seq ?_
  refine X_reg ?_
  refine XR_a (op_assign rfl) rfl rfl ?_
  refine XR_nil ?_
  refine X_seq ?_
  refine X_reg ?_
  refine XR_a (op_move rfl) rfl rfl ?_
  refine XR_wa (opl_call (appendSeq_parts st0 hc hP hiter) rfl (by kernel_rfl)) rfl rfl rfl ?_
  rintro v hp h
  refine XR_a (op_assign rfl) rfl rfl ?_
  refine XR_nil ?_
  refine X_ret (.cons (.tmp rfl) .nil) ?_
  exact h

theorem right1_runs (x : Int) (h0 : Heap) : Ret Try.prog 120 [.int .i64 x] h0 fun v h' => v = .bool (decide (x < 0 ∨ 15 < x)) ∧ h0 = h' := by
  refine ret_of_X Try.func120 rfl rfl fun w0 hw0 => ?_
  simp only [argE, Nat.zero_add, Nat.reduceAdd]
  refine X_seq ?_
  refine X_reg ?_
  refine XR_a (op_assign rfl) rfl rfl ?_
  refine XR_nil ?_
  refine X_seq ?_
  refine X_reg ?_
  refine XR_a (op_move rfl) rfl rfl ?_
  refine XR_a (op_lss rfl rfl) rfl rfl ?_
  refine XR_a (op_move rfl) rfl rfl ?_
  refine XR_if 5 rfl (fun h => ?_) (fun h => ?_)
  · refine XR_no rfl rfl ?_
    refine XR_no rfl rfl ?_
    refine XR_a (op_pick_t rfl rfl) rfl rfl ?_
    refine XR_a (op_assign rfl) rfl rfl ?_
    refine XR_nil ?_
    refine X_ret (.cons (.tmp rfl) .nil) ?_
    first
      | exact ⟨congrArg Value.bool (decide_eq_true (by omega)).symm, rfl⟩
      | exact ⟨congrArg Value.bool (decide_eq_decide.2 ⟨fun hh => by omega, fun hh => by omega⟩), rfl⟩
  · refine XR_a (op_move rfl) rfl rfl ?_
    refine XR_a (op_gtr rfl rfl) rfl rfl ?_
    refine XR_a (op_pick_f rfl rfl) rfl rfl ?_
    refine XR_a (op_assign rfl) rfl rfl ?_
    refine XR_nil ?_
    refine X_ret (.cons (.tmp rfl) .nil) ?_
    first
      | exact ⟨congrArg Value.bool (decide_eq_true (by omega)).symm, rfl⟩
      | exact ⟨congrArg Value.bool (decide_eq_decide.2 ⟨fun hh => by omega, fun hh => by omega⟩), rfl⟩
theorem rright_spec {n c : Nat} {A : Option Addr} {li : List Int} {h0 : Heap} (hr : Rd h0 A (li.map iV)) (hl : li.length = n) (hn : n ≤ 17592186044416) :
    Ret Try.prog 87 [.slice A n c] h0 fun v h' => v = .bool (decide (∀ x ∈ li, 0 ≤ x ∧ x ≤ 15)) ∧ h0 = h' := by
  refine ret_of_X Try.func87 rfl rfl fun w0 hw0 => ?_
  simp only [argE, Nat.zero_add, Nat.reduceAdd]
  refine X_seq ?_
  refine X_reg ?_
  refine XR_a (op_assign rfl) rfl rfl ?_
  refine XR_nil ?_
  refine X_seq ?_
  refine X_reg ?_
  refine XR_a (op_move rfl) rfl rfl ?_
  refine XR_wa (opl_call (containsFunc_spec (q := fun x => decide (x < 0 ∨ 15 < x)) (by kernel_rfl) hr hl hn (fun x _ => right1_runs x _)) rfl (by kernel_rfl)) rfl rfl rfl ?_
  rintro _ _ ⟨rfl, rfl⟩
  refine XR_a (op_not rfl) rfl rfl ?_
  rw [any_out]
  refine XR_a (op_assign rfl) rfl rfl ?_
  refine XR_nil ?_
  refine X_ret (.cons (.tmp rfl) .nil) ?_
  exact ⟨rfl, rfl⟩

theorem partsF_len (l : List Nat) : ∀ f a, (partsF l f a).length ≤ f
  | 0, _ => Nat.le_refl _
  | f + 1, a => by
    rw [partsF]
    split
    · have := partsF_len l f (a + (partAt l a).2)
      simp; omega
    · simp
theorem partsL_len (l : List Nat) : (partsL l 0).length ≤ l.length := by
  have := partsF_len l (l.length - 0) 0
  unfold partsL; omega
theorem parts_spec {n c : Nat} {A : Option Addr} {ls : List Nat} {h0 : Heap} (hr : Rd h0 A (ls.map nV)) (hl : ls.length = n) (hn : n ≤ 320) (hb : ∀ x ∈ ls, x ≤ 15) :
    Ret Try.prog 53 [.slice A n c] h0 fun v h' => St h0.size h0 h' [row 120 2 v ((partsL ls 0).flatMap pC2)] := by
  have hpl := partsL_len ls
  refine ret_of_X Try.func53 rfl rfl fun w0 hw0 => ?_
  simp only [argE, Nat.zero_add, Nat.reduceAdd]
  refine X_seq ?_
  refine X_reg ?_
  refine XR_a (op_assign rfl) rfl rfl ?_
  refine XR_nil ?_
  refine X_seq ?_
  refine X_seq ?_
  refine X_reg ?_
  refine XR_a (op_move rfl) rfl rfl ?_
  refine XR_a (op_len rfl rfl rfl) rfl rfl ?_
  refine XR_a (op_gtr rfl rfl) rfl rfl ?_
  refine XR_as (.bool false) (congrArg Value.bool (decide_eq_false (by omega))) ?_
  refine XR_a (op_move rfl) rfl rfl ?_
  refine XR_a (op_move rfl) rfl rfl ?_
  refine XR_wa (opl_call (rright_spec (li := ls.map fun n : Nat => (n : Int)) (by rw [← nV_iV]; exact hr) (by rw [List.length_map]; exact hl) (by omega)) rfl (by kernel_rfl)) rfl rfl rfl ?_
  rintro _ _ ⟨rfl, rfl⟩
  rw [decide_eq_true (fun x hx => by obtain ⟨y, hy, rfl⟩ := List.mem_map.1 hx; have := hb y hy; omega)]
  first | refine XR_a (op_notd rfl) rfl rfl ?_ | refine XR_a (op_not rfl) rfl rfl ?_
  refine XR_a (op_pick_f rfl rfl) rfl rfl ?_
  refine XR_nil ?_
  refine X_else rfl ?_
  refine X_skip ?_
  refine X_seq ?_
  refine X_reg ?_
  refine XR_a (op_move rfl) rfl rfl ?_
  refine XR_wa (opl_call (rparts_spec) rfl (by kernel_rfl)) rfl rfl rfl ?_
  rintro _ hp ⟨p, rfl, st⟩
  refine XR_wa (opl_call (collect_parts (P := partsL ls 0) (lb := [.pointer (some ⟨p, 0, none⟩)]) st.here (by kernel_rfl) (by omega) (fun JR G y h hlow s hround => parts_iter JR s (fun h' hl' => hr.ext ((st.low.trans hlow).trans hl')) hl (by omega) hround)) rfl (by kernel_rfl)) rfl rfl rfl ?_
  rintro v hp2 st2
  refine XR_a (op_assign rfl) rfl rfl ?_
  refine XR_nil ?_
  refine X_ret (.cons (.tmp rfl) .nil) ?_
  exact st.trans st2

theorem parts_5555 : partsL [5, 5, 5, 5] 0 = [(5, 1), (16, 3)] := by decide
theorem lives09 (h0 : Heap) : Ret Try.prog 40 [] h0 fun v h' => v = .bool true ∧ Ext h0 h' := by
  refine ret_of_X Try.func40 rfl rfl fun w0 hw0 => ?_
  simp only [argE, Nat.zero_add, Nat.reduceAdd]
  have st := St.start h0
  refine X_seq ?_
  refine X_reg ?_
  refine XR_a (op_assign rfl) rfl rfl ?_
  refine XR_nil ?_
  refine X_seq ?_
  refine X_reg ?_
  refine XR_wa (opl_lits [nV 5, nV 5, nV 5, nV 5] rfl rfl rfl rfl (by kernel_rfl) rfl) rfl rfl rfl ?_
  rintro w hp hnew
  replace st := st.new hnew
  obtain ⟨A3, n3, c3, rfl, hlen3, _, _, hrd3⟩ := st.row 0 rfl
  obtain rfl : n3 = 4 := by simpa using hlen3.symm
  refine XR_wa (opl_call (parts_spec (ls := [5, 5, 5, 5]) hrd3 rfl (by decide) (by decide)) rfl (by kernel_rfl)) rfl rfl rfl ?_
  rintro w hp2 st2
  rw [parts_5555] at st2
  obtain ⟨g4, n4, c4, rfl, hlen4, _, _, hrd4⟩ := st2.row0 0 rfl (by simp [pC2])
  obtain rfl : n4 = 2 := by simp [pC2] at hlen4; omega
  obtain ⟨_, _, e5, hc5⟩ := hrd4.at_ (by simp [pC2])
  cases e5
  refine XR_a (op_assign rfl) rfl rfl ?_
  refine XR_nil ?_
  refine X_seq ?_
  refine X_reg ?_
  refine XR_a (op_move rfl) rfl rfl ?_
  refine XR_a (op_len rfl rfl rfl) rfl rfl ?_
  refine XR_a (op_eql rfl rfl) rfl rfl ?_
  refine XR_a (op_move rfl) rfl rfl ?_
  refine XR_a (op_move rfl) rfl rfl ?_
  refine XR_a (op_index (i := 0) rfl rfl rfl (by omega)) rfl rfl ?_
  refine XR_a (op_ldA (o := 0 + 0 * 2) (vs := [nV 5, nV 1]) (fun j u hu => by rw [show 0 + 0 * 2 + j = 0 + j by omega]; refine hc5 j u ?_; rw [show ([(5, 1), (16, 3)] : List (Nat × Nat)).flatMap pC2 = [nV 5, nV 1] ++ [nV 16, nV 3] from rfl, List.getElem?_append_left (List.getElem?_eq_some_iff.1 hu).1]; exact hu) rfl rfl rfl rfl) rfl rfl ?_
  refine XR_a (op_build (ps := [(0, nV 5), (1, nV 1)]) (cs := #[nV 5, nV 1]) rfl rfl) rfl rfl ?_
  refine XR_a (op_eqlH rfl rfl (eq_flat (ks := [.i .i64, .i .i64]) (by kernel_rfl) (by kernel_rfl) rfl rfl) (by kernel_rfl)) rfl rfl ?_
  refine XR_a (op_pick_t rfl rfl) rfl rfl ?_
  refine XR_a (op_move rfl) rfl rfl ?_
  refine XR_a (op_move rfl) rfl rfl ?_
  refine XR_a (op_index (i := 1) rfl rfl rfl (by omega)) rfl rfl ?_
  refine XR_a (op_ldA (o := 0 + 1 * 2) (vs := [nV 16, nV 3]) (fun j u hu => by rw [show 0 + 1 * 2 + j = 0 + (2 + j) by omega]; refine hc5 (2 + j) u ?_; rw [show ([(5, 1), (16, 3)] : List (Nat × Nat)).flatMap pC2 = [nV 5, nV 1] ++ [nV 16, nV 3] from rfl, List.getElem?_append_right (by simp)]; simpa using hu) rfl rfl rfl rfl) rfl rfl ?_
  refine XR_a (op_build (ps := [(0, nV 16), (1, nV 3)]) (cs := #[nV 16, nV 3]) rfl rfl) rfl rfl ?_
  refine XR_a (op_eqlH rfl rfl (eq_flat (ks := [.i .i64, .i .i64]) (by kernel_rfl) (by kernel_rfl) rfl rfl) (by kernel_rfl)) rfl rfl ?_
  refine XR_a (op_pick_t rfl rfl) rfl rfl ?_
  refine XR_a (op_assign rfl) rfl rfl ?_
  refine XR_nil ?_
  refine X_ret (.cons (.tmp rfl) .nil) ?_
  exact ⟨rfl, Ext.trans st.low st2.low⟩
end Go.Bn
