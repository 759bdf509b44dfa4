/- Packed texts of a claim: what its theorem uses, joined. -/
import Derived.Test.YtoodeecmplpndaaGreatPkBpt7
import Derived.Test.YtoodeecmplpndaaGreatPkBpt14
section
set_option linter.unusedVariables false
set_option linter.unusedSimpArgs false
set_option maxHeartbeats 4000000
set_option maxRecDepth 20000
namespace Go.Bn
open Go Proofs
theorem eqRun_is {x : Nat} : ∀ {d : List Nat} {k : Nat}, k ≤ d.length → (∀ i, i < k → d.getD i 0 = x) → (d.length ≤ k ∨ d.getD k 0 ≠ x) → eqRun x d = k
  | [], k, h1, _, _ => by
    have : k = 0 := by simpa using h1
    subst this; rfl
  | y :: r, 0, h1, h2, h3 => by
    unfold eqRun
    rcases h3 with h3 | h3
    · simp at h3
    · rw [if_neg (by simpa using h3)]
  | y :: r, k + 1, h1, h2, h3 => by
    have hy := h2 0 (by omega)
    rw [List.getD_cons_zero] at hy
    unfold eqRun
    rw [if_pos hy, eqRun_is (k := k) (by simpa using h1) (fun i hi => by have := h2 (i + 1) (by omega); rwa [List.getD_cons_succ] at this) (by rw [List.getD_cons_succ] at h3; simpa using h3)]
theorem getD_drop (l : List Nat) (a i : Nat) : (l.drop a).getD i 0 = l.getD (a + i) 0 := by simp [List.getD, List.getElem?_drop]
theorem rrow_spec {n c a : Nat} {A : Option Addr} {l : List Nat} {h0 : Heap} (hr : Rd h0 A (l.map nV)) (hl : l.length = n) (hn : n ≤ 17592186044416) (ha : a < n) :
    Ret Tryz.prog 166 [.slice A n c, nV a] h0 fun v h' => v = nV (runAt l a) ∧ h0 = h' := by
  obtain ⟨g, o, rfl, hc⟩ := hr.at_ (by rw [List.length_map]; omega)
  have hci : ∀ i, i < n → cellH h0 ⟨g, o + i, none⟩ = some (nV (l.getD i 0)) := fun i hi => hc i _ (by rw [List.getElem?_map, List.getElem?_eq_getElem (by omega), getD_get (by omega)]; rfl)
  refine ret_of_X Tryz.func166 rfl rfl fun w0 hw0 => ?_
  simp only [argE, Nat.zero_add, Nat.reduceAdd]
  refine X_seq ?_
  refine X_reg ?_
  refine XR_a (op_assign rfl) rfl rfl ?_
  refine XR_nil ?_
  refine X_seq ?_
  refine X_reg ?_
  refine XR_a (op_assign rfl) rfl rfl ?_
  refine XR_nil ?_
  refine X_seq ?_
  refine X_block ?_
  refine X_loop (fun k => n - k) (fun k => [(0, .slice (some ⟨g, o, none⟩) n c), (1, nV a), (5, nV k)])
    (fun (k : Nat) hp => h0 = hp ∧ a + k ≤ n ∧ ∀ i, i < k → l.getD (a + i) 0 = l.getD a 0)
    0 (.cons rfl (.cons rfl (.cons rfl (.nil _)))) ⟨rfl, by omega, fun i hi => by omega⟩ ?_
  rintro k hp ⟨rfl, hk, hall⟩
  have hfin : (n ≤ a + k ∨ l.getD (a + k) 0 ≠ l.getD a 0) → runAt l a = k := fun h => by
    unfold runAt
    refine eqRun_is (by rw [List.length_drop]; omega) (fun i hi => by rw [getD_drop]; exact hall i hi) ?_
    rw [List.length_drop, getD_drop]
    rcases h with h | h
    · left; omega
    · exact .inr h
  refine X_seq ?_
  refine X_seq ?_
  refine X_draw byKind (by kernel_rfl) (by kernel_rfl) ?_
  refine XR_a (op_move rfl) rfl rfl ?_
  refine XR_a (op_move rfl) rfl rfl ?_
  first | refine XR_a (op_addN rfl rfl (by simp only [inK]; omega)) rfl rfl ?_ | refine XR_a (op_addI rfl rfl (by simp only [inK]; omega)) rfl rfl ?_ | refine XR_a (op_add rfl rfl) rfl rfl ?_
  refine XR_a (op_move rfl) rfl rfl ?_
  refine XR_a (op_len rfl rfl rfl) rfl rfl ?_
  refine XR_a (op_lss rfl rfl) rfl rfl ?_
  refine XR_a (op_move rfl) rfl rfl ?_
  refine XR_if 12 rfl (fun h => ?_) (fun h => ?_)
  · have h12 := h
    refine XR_a (op_move rfl) rfl rfl ?_
    refine XR_a (op_move rfl) rfl rfl ?_
    refine XR_a (op_move rfl) rfl rfl ?_
    first | refine XR_a (op_addN rfl rfl (by simp only [inK]; omega)) rfl rfl ?_ | refine XR_a (op_addI rfl rfl (by simp only [inK]; omega)) rfl rfl ?_ | refine XR_a (op_add rfl rfl) rfl rfl ?_
    refine XR_a (op_index1 (i := a + k) rfl rfl rfl (by omega)) rfl rfl ?_
    refine XR_a (op_ld (hci (a + k) (by omega)) rfl rfl rfl) rfl rfl ?_
    refine XR_a (op_move rfl) rfl rfl ?_
    refine XR_a (op_move rfl) rfl rfl ?_
    first | refine XR_a (op_index1 rfl rfl rfl (by omega)) rfl rfl ?_ | refine XR_a (op_index rfl rfl rfl (by omega)) rfl rfl ?_
    refine XR_a (op_ld (hci a (by omega)) rfl rfl rfl) rfl rfl ?_
    refine XR_a (op_eql rfl rfl) rfl rfl ?_
    refine XR_a (op_pick_t rfl rfl) rfl rfl ?_
    refine XR_nil ?_
    refine X_if rfl (fun h => ?_) (fun h => ?_)
    · refine X_skip ?_
      refine X_block ?_
      refine X_reg ?_
      refine XR_a (op_move rfl) rfl rfl ?_
      first | refine XR_a (op_addN (n := 1) rfl rfl (by simp only [inK]; omega)) rfl rfl ?_ | refine XR_a (op_addI rfl rfl (by simp only [inK]; omega)) rfl rfl ?_ | refine XR_a (op_add rfl rfl) rfl rfl ?_
      refine XR_a (op_assign rfl) rfl rfl ?_
      refine XR_nil ?_
      refine X_blk ?_
      exact X_again (k + 1) (.cons rfl (.cons rfl (.cons rfl (.nil _)))) ⟨rfl, by omega, fun i hi => by
        rcases Nat.lt_or_ge i k with h9 | h9
        · exact hall i h9
        · obtain rfl : i = k := by omega
          omega⟩ (by omega)
    · refine X_exit rfl ?_
      refine X_seq ?_
      refine X_reg ?_
      refine XR_a (op_move rfl) rfl rfl ?_
      refine XR_a (op_assign rfl) rfl rfl ?_
      refine XR_nil ?_
      refine X_ret (.cons (.tmp rfl) .nil) ?_
      rw [hfin (.inr (by omega))]
      exact ⟨rfl, rfl⟩
  · refine XR_no rfl rfl ?_
    refine XR_no rfl rfl ?_
    refine XR_no rfl rfl ?_
    refine XR_no rfl rfl ?_
    refine XR_no rfl rfl ?_
    refine XR_no rfl rfl ?_
    refine XR_no rfl rfl ?_
    refine XR_no rfl rfl ?_
    refine XR_no rfl rfl ?_
    refine XR_no rfl rfl ?_
    refine XR_no rfl rfl ?_
    refine XR_a (op_pick_f rfl rfl) rfl rfl ?_
    refine XR_nil ?_
    refine X_else rfl ?_
    refine X_exit rfl ?_
    refine X_seq ?_
    refine X_reg ?_
    refine XR_a (op_move rfl) rfl rfl ?_
    refine XR_a (op_assign rfl) rfl rfl ?_
    refine XR_nil ?_
    refine X_ret (.cons (.tmp rfl) .nil) ?_
    rw [hfin (.inl (by omega))]
    exact ⟨rfl, rfl⟩
def pC2 (x : Nat × Nat) : List Value := [nV x.1, nV x.2]
theorem one_pC2 (x : Nat × Nat) : ∀ u ∈ pC2 x, Value.one u = true := one_nV [x.1, x.2]
theorem rpart_spec {n c a : Nat} {A : Option Addr} {l : List Nat} {h0 : Heap} (hr : Rd h0 A (l.map nV)) (hl : l.length = n) (hn : n ≤ 17592186044416) (ha : a < n) :
    Ret Tryz.prog 154 [.slice A n c, nV a] h0 fun v h' => v = .agg (pC2 (partAt l a)).toArray ∧ Ext h0 h' := by
  obtain ⟨g, o, rfl, hc⟩ := hr.at_ (by rw [List.length_map]; omega)
  have hci : ∀ i, i < n → cellH h0 ⟨g, o + i, none⟩ = some (nV (l.getD i 0)) := fun i hi => hc i _ (by rw [List.getElem?_map, List.getElem?_eq_getElem (by omega), getD_get (by omega)]; rfl)
  have hP : partAt l a = if l.getD a 0 = 0 ∧ 11 ≤ runAt l a then (18, min (runAt l a) 138) else if l.getD a 0 = 0 ∧ 3 ≤ runAt l a then (17, runAt l a) else
    if 0 < a ∧ l.getD a 0 = l.getD (a - 1) 0 ∧ 3 ≤ runAt l a then (16, min (runAt l a) 6) else (l.getD a 0, 1) := rfl
  have hrl := runAt_le l a
  refine ret_of_X Tryz.func154 rfl rfl fun w0 hw0 => ?_
  simp only [argE, Nat.zero_add, Nat.reduceAdd]
  have st := St.start h0
  refine X_seq ?_
  refine X_reg ?_
  refine XR_wa (opl_new rfl) rfl rfl rfl ?_
  rintro _ hp ⟨p, rfl, hnew⟩
  replace st := st.new hnew
  have hcx := fun i (hi : i < n) => cellH_ext (a := ⟨g, o + i, none⟩) st.low (hci i hi)
  refine XR_nil ?_
  refine X_seq ?_
  refine X_reg ?_
  refine XR_a (op_move rfl) rfl rfl ?_
  refine XR_a (op_move rfl) rfl rfl ?_
  refine XR_wa (opl_call (rrow_spec (hr.ext st.low) hl hn ha) rfl (by kernel_rfl)) rfl rfl rfl ?_
  rintro _ _ ⟨rfl, rfl⟩
  obtain ⟨r, hre⟩ : ∃ r, runAt l a = r := ⟨_, rfl⟩
  rw [hre] at hP hrl ⊢
  refine XR_a (op_assign rfl) rfl rfl ?_
  refine XR_nil ?_
  refine X_seq ?_
  refine X_block ?_
  refine X_seq ?_
  refine X_reg ?_
  refine XR_a (op_move rfl) rfl rfl ?_
  refine XR_a (op_move rfl) rfl rfl ?_
  first | refine XR_a (op_index1 rfl rfl rfl (by omega)) rfl rfl ?_ | refine XR_a (op_index rfl rfl rfl (by omega)) rfl rfl ?_
  refine XR_a (op_ld (hcx a ha) rfl rfl rfl) rfl rfl ?_
  refine XR_a (op_eql rfl rfl) rfl rfl ?_
  refine XR_a (op_move rfl) rfl rfl ?_
  refine XR_if 15 rfl (fun h => ?_) (fun h => ?_)
  · have h15 := h
    refine XR_a (op_move rfl) rfl rfl ?_
    refine XR_a (op_geq rfl rfl) rfl rfl ?_
    refine XR_a (op_pick_t rfl rfl) rfl rfl ?_
    refine XR_a (op_assign rfl) rfl rfl ?_
    refine XR_nil ?_
    refine X_if rfl (fun h => ?_) (fun h => ?_)
    · refine X_seq ?_
      refine X_reg ?_
      refine XR_a (op_move rfl) rfl rfl ?_
      refine XR_a (op_min2 rfl rfl) rfl rfl ?_
      refine XR_as (nV (min r 138)) (congrArg (Value.int .i64) (by omega)) ?_
      refine XR_a (op_build (ps := [(0, nV 18), (1, nV (min r 138))]) (cs := #[nV 18, nV (min r 138)]) rfl rfl) rfl rfl ?_
      refine XR_wn (opl_store_whole (us := [nV 18, nV (min r 138)]) st 0 rfl rfl rfl rfl rfl (one_nV [18, _]) rfl) rfl rfl fun _ hp st => ?_
      simp only [List.set_cons_zero] at st
      refine XR_nil ?_
      refine X_ret (.cons (RV_agg rfl rfl rfl (st.cells 0 rfl)) .nil) ?_
      rw [hP, if_pos (by omega)]
      exact ⟨rfl, st.low⟩
    · have h1 := h
      refine X_seq ?_
      refine X_reg ?_
      refine XR_a (op_move rfl) rfl rfl ?_
      refine XR_a (op_move rfl) rfl rfl ?_
      first | refine XR_a (op_index1 rfl rfl rfl (by omega)) rfl rfl ?_ | refine XR_a (op_index rfl rfl rfl (by omega)) rfl rfl ?_
      refine XR_a (op_ld (hcx a ha) rfl rfl rfl) rfl rfl ?_
      refine XR_a (op_eql rfl rfl) rfl rfl ?_
      refine XR_a (op_move rfl) rfl rfl ?_
      refine XR_if 28 rfl (fun h => ?_) (fun h => ?_)
      · have h28 := h
        refine XR_a (op_move rfl) rfl rfl ?_
        refine XR_a (op_geq rfl rfl) rfl rfl ?_
        refine XR_a (op_pick_t rfl rfl) rfl rfl ?_
        refine XR_a (op_assign rfl) rfl rfl ?_
        refine XR_nil ?_
        refine X_if rfl (fun h => ?_) (fun h => ?_)
        · refine X_seq ?_
          refine X_reg ?_
          refine XR_a (op_move rfl) rfl rfl ?_
          refine XR_a (op_build (ps := [(0, nV 17), (1, nV r)]) (cs := #[nV 17, nV r]) rfl rfl) rfl rfl ?_
          refine XR_wn (opl_store_whole (us := [nV 17, nV r]) st 0 rfl rfl rfl rfl rfl (one_nV [17, _]) rfl) rfl rfl fun _ hp st => ?_
          simp only [List.set_cons_zero] at st
          refine XR_nil ?_
          refine X_ret (.cons (RV_agg rfl rfl rfl (st.cells 0 rfl)) .nil) ?_
          rw [hP, if_neg (by omega), if_pos (by omega)]
          exact ⟨rfl, st.low⟩
        · have h2 := h
          refine X_seq ?_
          refine X_draw byKind (by kernel_rfl) (by kernel_rfl) ?_
          refine XR_a (op_move rfl) rfl rfl ?_
          refine XR_a (op_gtr rfl rfl) rfl rfl ?_
          refine XR_a (op_move rfl) rfl rfl ?_
          refine XR_if 37 rfl (fun h => ?_) (fun h => ?_)
          · have h37 := h
            refine XR_a (op_move rfl) rfl rfl ?_
            refine XR_a (op_move rfl) rfl rfl ?_
            first | refine XR_a (op_index1 rfl rfl rfl (by omega)) rfl rfl ?_ | refine XR_a (op_index rfl rfl rfl (by omega)) rfl rfl ?_
            refine XR_a (op_ld (hcx a ha) rfl rfl rfl) rfl rfl ?_
            refine XR_a (op_move rfl) rfl rfl ?_
            refine XR_a (op_move rfl) rfl rfl ?_
            first | refine XR_a (op_subN (n := 1) rfl rfl (by omega) (by simp only [inK]; omega)) rfl rfl ?_ | refine XR_a (op_subI rfl rfl (by simp only [inK]; omega)) rfl rfl ?_ | refine XR_a (op_sub rfl rfl) rfl rfl ?_
            refine XR_a (op_index1 (i := a - 1) rfl rfl rfl (by omega)) rfl rfl ?_
            refine XR_a (op_ld (hcx (a - 1) (by omega)) rfl rfl rfl) rfl rfl ?_
            refine XR_a (op_eql rfl rfl) rfl rfl ?_
            refine XR_a (op_pick_t rfl rfl) rfl rfl ?_
            refine XR_a (op_move rfl) rfl rfl ?_
            refine XR_if 49 rfl (fun h => ?_) (fun h => ?_)
            · have h49 := h
              refine XR_a (op_move rfl) rfl rfl ?_
              refine XR_a (op_geq rfl rfl) rfl rfl ?_
              refine XR_a (op_pick_t rfl rfl) rfl rfl ?_
              refine XR_a (op_assign rfl) rfl rfl ?_
              refine XR_nil ?_
              refine X_if rfl (fun h => ?_) (fun h => ?_)
              · refine X_seq ?_
                refine X_reg ?_
                refine XR_a (op_move rfl) rfl rfl ?_
                refine XR_a (op_min2 rfl rfl) rfl rfl ?_
                refine XR_as (nV (min r 6)) (congrArg (Value.int .i64) (by omega)) ?_
                refine XR_a (op_build (ps := [(0, nV 16), (1, nV (min r 6))]) (cs := #[nV 16, nV (min r 6)]) rfl rfl) rfl rfl ?_
                refine XR_wn (opl_store_whole (us := [nV 16, nV (min r 6)]) st 0 rfl rfl rfl rfl rfl (one_nV [16, _]) rfl) rfl rfl fun _ hp st => ?_
                simp only [List.set_cons_zero] at st
                refine XR_nil ?_
                refine X_ret (.cons (RV_agg rfl rfl rfl (st.cells 0 rfl)) .nil) ?_
                rw [hP, if_neg (by omega), if_neg (by omega), if_pos (by omega)]
                exact ⟨rfl, st.low⟩
              · have h3 := h
                refine X_skip ?_
                refine X_blk ?_
                refine X_seq ?_
                refine X_reg ?_
                refine XR_a (op_move rfl) rfl rfl ?_
                refine XR_a (op_move rfl) rfl rfl ?_
                first | refine XR_a (op_index1 rfl rfl rfl (by omega)) rfl rfl ?_ | refine XR_a (op_index rfl rfl rfl (by omega)) rfl rfl ?_
                refine XR_a (op_ld (hcx a ha) rfl rfl rfl) rfl rfl ?_
                refine XR_a (op_build (ps := [(0, nV (l.getD a 0)), (1, nV 1)]) (cs := #[nV (l.getD a 0), nV 1]) rfl rfl) rfl rfl ?_
                refine XR_wn (opl_store_whole (us := [nV (l.getD a 0), nV 1]) st 0 rfl rfl rfl rfl rfl (one_nV [_, 1]) rfl) rfl rfl fun _ hp st => ?_
                simp only [List.set_cons_zero] at st
                refine XR_nil ?_
                refine X_ret (.cons (RV_agg rfl rfl rfl (st.cells 0 rfl)) .nil) ?_
                rw [hP, if_neg (by omega), if_neg (by omega), if_neg (by omega)]
                exact ⟨rfl, st.low⟩
            · have h49 := h
              refine XR_no rfl rfl ?_
              refine XR_no rfl rfl ?_
              refine XR_a (op_pick_f rfl rfl) rfl rfl ?_
              refine XR_a (op_assign rfl) rfl rfl ?_
              refine XR_nil ?_
              refine X_else rfl ?_
              refine X_skip ?_
              refine X_blk ?_
              refine X_seq ?_
              refine X_reg ?_
              refine XR_a (op_move rfl) rfl rfl ?_
              refine XR_a (op_move rfl) rfl rfl ?_
              first | refine XR_a (op_index1 rfl rfl rfl (by omega)) rfl rfl ?_ | refine XR_a (op_index rfl rfl rfl (by omega)) rfl rfl ?_
              refine XR_a (op_ld (hcx a ha) rfl rfl rfl) rfl rfl ?_
              refine XR_a (op_build (ps := [(0, nV (l.getD a 0)), (1, nV 1)]) (cs := #[nV (l.getD a 0), nV 1]) rfl rfl) rfl rfl ?_
              refine XR_wn (opl_store_whole (us := [nV (l.getD a 0), nV 1]) st 0 rfl rfl rfl rfl rfl (one_nV [_, 1]) rfl) rfl rfl fun _ hp st => ?_
              simp only [List.set_cons_zero] at st
              refine XR_nil ?_
              refine X_ret (.cons (RV_agg rfl rfl rfl (st.cells 0 rfl)) .nil) ?_
              rw [hP, if_neg (by omega), if_neg (by omega), if_neg (by omega)]
              exact ⟨rfl, st.low⟩
          · have h37 := h
            refine XR_no rfl rfl ?_
            refine XR_no rfl rfl ?_
            refine XR_no rfl rfl ?_
            refine XR_no rfl rfl ?_
            refine XR_no rfl rfl ?_
            refine XR_no rfl rfl ?_
            refine XR_no rfl rfl ?_
            refine XR_no rfl rfl ?_
            refine XR_no rfl rfl ?_
            refine XR_no rfl rfl ?_
            refine XR_a (op_pick_f rfl rfl) rfl rfl ?_
            refine XR_a (op_move rfl) rfl rfl ?_
            refine XR_no rfl rfl ?_
            refine XR_no rfl rfl ?_
            refine XR_a (op_pick_f rfl rfl) rfl rfl ?_
            refine XR_a (op_assign rfl) rfl rfl ?_
            refine XR_nil ?_
            refine X_else rfl ?_
            refine X_skip ?_
            refine X_blk ?_
            refine X_seq ?_
            refine X_reg ?_
            refine XR_a (op_move rfl) rfl rfl ?_
            refine XR_a (op_move rfl) rfl rfl ?_
            first | refine XR_a (op_index1 rfl rfl rfl (by omega)) rfl rfl ?_ | refine XR_a (op_index rfl rfl rfl (by omega)) rfl rfl ?_
            refine XR_a (op_ld (hcx a ha) rfl rfl rfl) rfl rfl ?_
            refine XR_a (op_build (ps := [(0, nV (l.getD a 0)), (1, nV 1)]) (cs := #[nV (l.getD a 0), nV 1]) rfl rfl) rfl rfl ?_
            refine XR_wn (opl_store_whole (us := [nV (l.getD a 0), nV 1]) st 0 rfl rfl rfl rfl rfl (one_nV [_, 1]) rfl) rfl rfl fun _ hp st => ?_
            simp only [List.set_cons_zero] at st
            refine XR_nil ?_
            refine X_ret (.cons (RV_agg rfl rfl rfl (st.cells 0 rfl)) .nil) ?_
            rw [hP, if_neg (by omega), if_neg (by omega), if_neg (by omega)]
            exact ⟨rfl, st.low⟩
      · have h28 := h
        refine XR_no rfl rfl ?_
        refine XR_no rfl rfl ?_
        refine XR_a (op_pick_f rfl rfl) rfl rfl ?_
        refine XR_a (op_assign rfl) rfl rfl ?_
        refine XR_nil ?_
        refine X_else rfl ?_
        refine X_seq ?_
        refine X_draw byKind (by kernel_rfl) (by kernel_rfl) ?_
        refine XR_a (op_move rfl) rfl rfl ?_
        refine XR_a (op_gtr rfl rfl) rfl rfl ?_
        refine XR_a (op_move rfl) rfl rfl ?_
        refine XR_if 37 rfl (fun h => ?_) (fun h => ?_)
        · have h37 := h
          refine XR_a (op_move rfl) rfl rfl ?_
          refine XR_a (op_move rfl) rfl rfl ?_
          first | refine XR_a (op_index1 rfl rfl rfl (by omega)) rfl rfl ?_ | refine XR_a (op_index rfl rfl rfl (by omega)) rfl rfl ?_
          refine XR_a (op_ld (hcx a ha) rfl rfl rfl) rfl rfl ?_
          refine XR_a (op_move rfl) rfl rfl ?_
          refine XR_a (op_move rfl) rfl rfl ?_
          first | refine XR_a (op_subN (n := 1) rfl rfl (by omega) (by simp only [inK]; omega)) rfl rfl ?_ | refine XR_a (op_subI rfl rfl (by simp only [inK]; omega)) rfl rfl ?_ | refine XR_a (op_sub rfl rfl) rfl rfl ?_
          refine XR_a (op_index1 (i := a - 1) rfl rfl rfl (by omega)) rfl rfl ?_
          refine XR_a (op_ld (hcx (a - 1) (by omega)) rfl rfl rfl) rfl rfl ?_
          refine XR_a (op_eql rfl rfl) rfl rfl ?_
          refine XR_a (op_pick_t rfl rfl) rfl rfl ?_
          refine XR_a (op_move rfl) rfl rfl ?_
          refine XR_if 49 rfl (fun h => ?_) (fun h => ?_)
          · have h49 := h
            refine XR_a (op_move rfl) rfl rfl ?_
            refine XR_a (op_geq rfl rfl) rfl rfl ?_
            refine XR_a (op_pick_t rfl rfl) rfl rfl ?_
            refine XR_a (op_assign rfl) rfl rfl ?_
            refine XR_nil ?_
            refine X_if rfl (fun h => ?_) (fun h => ?_)
            · refine X_seq ?_
              refine X_reg ?_
              refine XR_a (op_move rfl) rfl rfl ?_
              refine XR_a (op_min2 rfl rfl) rfl rfl ?_
              refine XR_as (nV (min r 6)) (congrArg (Value.int .i64) (by omega)) ?_
              refine XR_a (op_build (ps := [(0, nV 16), (1, nV (min r 6))]) (cs := #[nV 16, nV (min r 6)]) rfl rfl) rfl rfl ?_
              refine XR_wn (opl_store_whole (us := [nV 16, nV (min r 6)]) st 0 rfl rfl rfl rfl rfl (one_nV [16, _]) rfl) rfl rfl fun _ hp st => ?_
              simp only [List.set_cons_zero] at st
              refine XR_nil ?_
              refine X_ret (.cons (RV_agg rfl rfl rfl (st.cells 0 rfl)) .nil) ?_
              rw [hP, if_neg (by omega), if_neg (by omega), if_pos (by omega)]
              exact ⟨rfl, st.low⟩
            · have h3 := h
              refine X_skip ?_
              refine X_blk ?_
              refine X_seq ?_
              refine X_reg ?_
              refine XR_a (op_move rfl) rfl rfl ?_
              refine XR_a (op_move rfl) rfl rfl ?_
              first | refine XR_a (op_index1 rfl rfl rfl (by omega)) rfl rfl ?_ | refine XR_a (op_index rfl rfl rfl (by omega)) rfl rfl ?_
              refine XR_a (op_ld (hcx a ha) rfl rfl rfl) rfl rfl ?_
              refine XR_a (op_build (ps := [(0, nV (l.getD a 0)), (1, nV 1)]) (cs := #[nV (l.getD a 0), nV 1]) rfl rfl) rfl rfl ?_
              refine XR_wn (opl_store_whole (us := [nV (l.getD a 0), nV 1]) st 0 rfl rfl rfl rfl rfl (one_nV [_, 1]) rfl) rfl rfl fun _ hp st => ?_
              simp only [List.set_cons_zero] at st
              refine XR_nil ?_
              refine X_ret (.cons (RV_agg rfl rfl rfl (st.cells 0 rfl)) .nil) ?_
              rw [hP, if_neg (by omega), if_neg (by omega), if_neg (by omega)]
              exact ⟨rfl, st.low⟩
          · have h49 := h
            refine XR_no rfl rfl ?_
            refine XR_no rfl rfl ?_
            refine XR_a (op_pick_f rfl rfl) rfl rfl ?_
            refine XR_a (op_assign rfl) rfl rfl ?_
            refine XR_nil ?_
            refine X_else rfl ?_
            refine X_skip ?_
            refine X_blk ?_
            refine X_seq ?_
            refine X_reg ?_
            refine XR_a (op_move rfl) rfl rfl ?_
            refine XR_a (op_move rfl) rfl rfl ?_
            first | refine XR_a (op_index1 rfl rfl rfl (by omega)) rfl rfl ?_ | refine XR_a (op_index rfl rfl rfl (by omega)) rfl rfl ?_
            refine XR_a (op_ld (hcx a ha) rfl rfl rfl) rfl rfl ?_
            refine XR_a (op_build (ps := [(0, nV (l.getD a 0)), (1, nV 1)]) (cs := #[nV (l.getD a 0), nV 1]) rfl rfl) rfl rfl ?_
            refine XR_wn (opl_store_whole (us := [nV (l.getD a 0), nV 1]) st 0 rfl rfl rfl rfl rfl (one_nV [_, 1]) rfl) rfl rfl fun _ hp st => ?_
            simp only [List.set_cons_zero] at st
            refine XR_nil ?_
            refine X_ret (.cons (RV_agg rfl rfl rfl (st.cells 0 rfl)) .nil) ?_
            rw [hP, if_neg (by omega), if_neg (by omega), if_neg (by omega)]
            exact ⟨rfl, st.low⟩
        · have h37 := h
          refine XR_no rfl rfl ?_
          refine XR_no rfl rfl ?_
          refine XR_no rfl rfl ?_
          refine XR_no rfl rfl ?_
          refine XR_no rfl rfl ?_
          refine XR_no rfl rfl ?_
          refine XR_no rfl rfl ?_
          refine XR_no rfl rfl ?_
          refine XR_no rfl rfl ?_
          refine XR_no rfl rfl ?_
          refine XR_a (op_pick_f rfl rfl) rfl rfl ?_
          refine XR_a (op_move rfl) rfl rfl ?_
          refine XR_no rfl rfl ?_
          refine XR_no rfl rfl ?_
          refine XR_a (op_pick_f rfl rfl) rfl rfl ?_
          refine XR_a (op_assign rfl) rfl rfl ?_
          refine XR_nil ?_
          refine X_else rfl ?_
          refine X_skip ?_
          refine X_blk ?_
          refine X_seq ?_
          refine X_reg ?_
          refine XR_a (op_move rfl) rfl rfl ?_
          refine XR_a (op_move rfl) rfl rfl ?_
          first | refine XR_a (op_index1 rfl rfl rfl (by omega)) rfl rfl ?_ | refine XR_a (op_index rfl rfl rfl (by omega)) rfl rfl ?_
          refine XR_a (op_ld (hcx a ha) rfl rfl rfl) rfl rfl ?_
          refine XR_a (op_build (ps := [(0, nV (l.getD a 0)), (1, nV 1)]) (cs := #[nV (l.getD a 0), nV 1]) rfl rfl) rfl rfl ?_
          refine XR_wn (opl_store_whole (us := [nV (l.getD a 0), nV 1]) st 0 rfl rfl rfl rfl rfl (one_nV [_, 1]) rfl) rfl rfl fun _ hp st => ?_
          simp only [List.set_cons_zero] at st
          refine XR_nil ?_
          refine X_ret (.cons (RV_agg rfl rfl rfl (st.cells 0 rfl)) .nil) ?_
          rw [hP, if_neg (by omega), if_neg (by omega), if_neg (by omega)]
          exact ⟨rfl, st.low⟩
  · have h15 := h
    refine XR_no rfl rfl ?_
    refine XR_no rfl rfl ?_
    refine XR_a (op_pick_f rfl rfl) rfl rfl ?_
    refine XR_a (op_assign rfl) rfl rfl ?_
    refine XR_nil ?_
    refine X_else rfl ?_
    refine X_seq ?_
    refine X_reg ?_
    refine XR_a (op_move rfl) rfl rfl ?_
    refine XR_a (op_move rfl) rfl rfl ?_
    first | refine XR_a (op_index1 rfl rfl rfl (by omega)) rfl rfl ?_ | refine XR_a (op_index rfl rfl rfl (by omega)) rfl rfl ?_
    refine XR_a (op_ld (hcx a ha) rfl rfl rfl) rfl rfl ?_
    refine XR_a (op_eql rfl rfl) rfl rfl ?_
    refine XR_a (op_move rfl) rfl rfl ?_
    refine XR_if 28 rfl (fun h => ?_) (fun h => ?_)
    · have h28 := h
      refine XR_a (op_move rfl) rfl rfl ?_
      refine XR_a (op_geq rfl rfl) rfl rfl ?_
      refine XR_a (op_pick_t rfl rfl) rfl rfl ?_
      refine XR_a (op_assign rfl) rfl rfl ?_
      refine XR_nil ?_
      refine X_if rfl (fun h => ?_) (fun h => ?_)
      · refine X_seq ?_
        refine X_reg ?_
        refine XR_a (op_move rfl) rfl rfl ?_
        refine XR_a (op_build (ps := [(0, nV 17), (1, nV r)]) (cs := #[nV 17, nV r]) rfl rfl) rfl rfl ?_
        refine XR_wn (opl_store_whole (us := [nV 17, nV r]) st 0 rfl rfl rfl rfl rfl (one_nV [17, _]) rfl) rfl rfl fun _ hp st => ?_
        simp only [List.set_cons_zero] at st
        refine XR_nil ?_
        refine X_ret (.cons (RV_agg rfl rfl rfl (st.cells 0 rfl)) .nil) ?_
        rw [hP, if_neg (by omega), if_pos (by omega)]
        exact ⟨rfl, st.low⟩
      · have h2 := h
        refine X_seq ?_
        refine X_draw byKind (by kernel_rfl) (by kernel_rfl) ?_
        refine XR_a (op_move rfl) rfl rfl ?_
        refine XR_a (op_gtr rfl rfl) rfl rfl ?_
        refine XR_a (op_move rfl) rfl rfl ?_
        refine XR_if 37 rfl (fun h => ?_) (fun h => ?_)
        · have h37 := h
          refine XR_a (op_move rfl) rfl rfl ?_
          refine XR_a (op_move rfl) rfl rfl ?_
          first | refine XR_a (op_index1 rfl rfl rfl (by omega)) rfl rfl ?_ | refine XR_a (op_index rfl rfl rfl (by omega)) rfl rfl ?_
          refine XR_a (op_ld (hcx a ha) rfl rfl rfl) rfl rfl ?_
          refine XR_a (op_move rfl) rfl rfl ?_
          refine XR_a (op_move rfl) rfl rfl ?_
          first | refine XR_a (op_subN (n := 1) rfl rfl (by omega) (by simp only [inK]; omega)) rfl rfl ?_ | refine XR_a (op_subI rfl rfl (by simp only [inK]; omega)) rfl rfl ?_ | refine XR_a (op_sub rfl rfl) rfl rfl ?_
          refine XR_a (op_index1 (i := a - 1) rfl rfl rfl (by omega)) rfl rfl ?_
          refine XR_a (op_ld (hcx (a - 1) (by omega)) rfl rfl rfl) rfl rfl ?_
          refine XR_a (op_eql rfl rfl) rfl rfl ?_
          refine XR_a (op_pick_t rfl rfl) rfl rfl ?_
          refine XR_a (op_move rfl) rfl rfl ?_
          refine XR_if 49 rfl (fun h => ?_) (fun h => ?_)
          · have h49 := h
            refine XR_a (op_move rfl) rfl rfl ?_
            refine XR_a (op_geq rfl rfl) rfl rfl ?_
            refine XR_a (op_pick_t rfl rfl) rfl rfl ?_
            refine XR_a (op_assign rfl) rfl rfl ?_
            refine XR_nil ?_
            refine X_if rfl (fun h => ?_) (fun h => ?_)
            · refine X_seq ?_
              refine X_reg ?_
              refine XR_a (op_move rfl) rfl rfl ?_
              refine XR_a (op_min2 rfl rfl) rfl rfl ?_
              refine XR_as (nV (min r 6)) (congrArg (Value.int .i64) (by omega)) ?_
              refine XR_a (op_build (ps := [(0, nV 16), (1, nV (min r 6))]) (cs := #[nV 16, nV (min r 6)]) rfl rfl) rfl rfl ?_
              refine XR_wn (opl_store_whole (us := [nV 16, nV (min r 6)]) st 0 rfl rfl rfl rfl rfl (one_nV [16, _]) rfl) rfl rfl fun _ hp st => ?_
              simp only [List.set_cons_zero] at st
              refine XR_nil ?_
              refine X_ret (.cons (RV_agg rfl rfl rfl (st.cells 0 rfl)) .nil) ?_
              rw [hP, if_neg (by omega), if_neg (by omega), if_pos (by omega)]
              exact ⟨rfl, st.low⟩
            · have h3 := h
              refine X_skip ?_
              refine X_blk ?_
              refine X_seq ?_
              refine X_reg ?_
              refine XR_a (op_move rfl) rfl rfl ?_
              refine XR_a (op_move rfl) rfl rfl ?_
              first | refine XR_a (op_index1 rfl rfl rfl (by omega)) rfl rfl ?_ | refine XR_a (op_index rfl rfl rfl (by omega)) rfl rfl ?_
              refine XR_a (op_ld (hcx a ha) rfl rfl rfl) rfl rfl ?_
              refine XR_a (op_build (ps := [(0, nV (l.getD a 0)), (1, nV 1)]) (cs := #[nV (l.getD a 0), nV 1]) rfl rfl) rfl rfl ?_
              refine XR_wn (opl_store_whole (us := [nV (l.getD a 0), nV 1]) st 0 rfl rfl rfl rfl rfl (one_nV [_, 1]) rfl) rfl rfl fun _ hp st => ?_
              simp only [List.set_cons_zero] at st
              refine XR_nil ?_
              refine X_ret (.cons (RV_agg rfl rfl rfl (st.cells 0 rfl)) .nil) ?_
              rw [hP, if_neg (by omega), if_neg (by omega), if_neg (by omega)]
              exact ⟨rfl, st.low⟩
          · have h49 := h
            refine XR_no rfl rfl ?_
            refine XR_no rfl rfl ?_
            refine XR_a (op_pick_f rfl rfl) rfl rfl ?_
            refine XR_a (op_assign rfl) rfl rfl ?_
            refine XR_nil ?_
            refine X_else rfl ?_
            refine X_skip ?_
            refine X_blk ?_
            refine X_seq ?_
            refine X_reg ?_
            refine XR_a (op_move rfl) rfl rfl ?_
            refine XR_a (op_move rfl) rfl rfl ?_
            first | refine XR_a (op_index1 rfl rfl rfl (by omega)) rfl rfl ?_ | refine XR_a (op_index rfl rfl rfl (by omega)) rfl rfl ?_
            refine XR_a (op_ld (hcx a ha) rfl rfl rfl) rfl rfl ?_
            refine XR_a (op_build (ps := [(0, nV (l.getD a 0)), (1, nV 1)]) (cs := #[nV (l.getD a 0), nV 1]) rfl rfl) rfl rfl ?_
            refine XR_wn (opl_store_whole (us := [nV (l.getD a 0), nV 1]) st 0 rfl rfl rfl rfl rfl (one_nV [_, 1]) rfl) rfl rfl fun _ hp st => ?_
            simp only [List.set_cons_zero] at st
            refine XR_nil ?_
            refine X_ret (.cons (RV_agg rfl rfl rfl (st.cells 0 rfl)) .nil) ?_
            rw [hP, if_neg (by omega), if_neg (by omega), if_neg (by omega)]
            exact ⟨rfl, st.low⟩
        · have h37 := h
          refine XR_no rfl rfl ?_
          refine XR_no rfl rfl ?_
          refine XR_no rfl rfl ?_
          refine XR_no rfl rfl ?_
          refine XR_no rfl rfl ?_
          refine XR_no rfl rfl ?_
          refine XR_no rfl rfl ?_
          refine XR_no rfl rfl ?_
          refine XR_no rfl rfl ?_
          refine XR_no rfl rfl ?_
          refine XR_a (op_pick_f rfl rfl) rfl rfl ?_
          refine XR_a (op_move rfl) rfl rfl ?_
          refine XR_no rfl rfl ?_
          refine XR_no rfl rfl ?_
          refine XR_a (op_pick_f rfl rfl) rfl rfl ?_
          refine XR_a (op_assign rfl) rfl rfl ?_
          refine XR_nil ?_
          refine X_else rfl ?_
          refine X_skip ?_
          refine X_blk ?_
          refine X_seq ?_
          refine X_reg ?_
          refine XR_a (op_move rfl) rfl rfl ?_
          refine XR_a (op_move rfl) rfl rfl ?_
          first | refine XR_a (op_index1 rfl rfl rfl (by omega)) rfl rfl ?_ | refine XR_a (op_index rfl rfl rfl (by omega)) rfl rfl ?_
          refine XR_a (op_ld (hcx a ha) rfl rfl rfl) rfl rfl ?_
          refine XR_a (op_build (ps := [(0, nV (l.getD a 0)), (1, nV 1)]) (cs := #[nV (l.getD a 0), nV 1]) rfl rfl) rfl rfl ?_
          refine XR_wn (opl_store_whole (us := [nV (l.getD a 0), nV 1]) st 0 rfl rfl rfl rfl rfl (one_nV [_, 1]) rfl) rfl rfl fun _ hp st => ?_
          simp only [List.set_cons_zero] at st
          refine XR_nil ?_
          refine X_ret (.cons (RV_agg rfl rfl rfl (st.cells 0 rfl)) .nil) ?_
          rw [hP, if_neg (by omega), if_neg (by omega), if_neg (by omega)]
          exact ⟨rfl, st.low⟩
    · have h28 := h
      refine XR_no rfl rfl ?_
      refine XR_no rfl rfl ?_
      refine XR_a (op_pick_f rfl rfl) rfl rfl ?_
      refine XR_a (op_assign rfl) rfl rfl ?_
      refine XR_nil ?_
      refine X_else rfl ?_
      refine X_seq ?_
      refine X_draw byKind (by kernel_rfl) (by kernel_rfl) ?_
      refine XR_a (op_move rfl) rfl rfl ?_
      refine XR_a (op_gtr rfl rfl) rfl rfl ?_
      refine XR_a (op_move rfl) rfl rfl ?_
      refine XR_if 37 rfl (fun h => ?_) (fun h => ?_)
      · have h37 := h
        refine XR_a (op_move rfl) rfl rfl ?_
        refine XR_a (op_move rfl) rfl rfl ?_
        first | refine XR_a (op_index1 rfl rfl rfl (by omega)) rfl rfl ?_ | refine XR_a (op_index rfl rfl rfl (by omega)) rfl rfl ?_
        refine XR_a (op_ld (hcx a ha) rfl rfl rfl) rfl rfl ?_
        refine XR_a (op_move rfl) rfl rfl ?_
        refine XR_a (op_move rfl) rfl rfl ?_
        first | refine XR_a (op_subN (n := 1) rfl rfl (by omega) (by simp only [inK]; omega)) rfl rfl ?_ | refine XR_a (op_subI rfl rfl (by simp only [inK]; omega)) rfl rfl ?_ | refine XR_a (op_sub rfl rfl) rfl rfl ?_
        refine XR_a (op_index1 (i := a - 1) rfl rfl rfl (by omega)) rfl rfl ?_
        refine XR_a (op_ld (hcx (a - 1) (by omega)) rfl rfl rfl) rfl rfl ?_
        refine XR_a (op_eql rfl rfl) rfl rfl ?_
        refine XR_a (op_pick_t rfl rfl) rfl rfl ?_
        refine XR_a (op_move rfl) rfl rfl ?_
        refine XR_if 49 rfl (fun h => ?_) (fun h => ?_)
        · have h49 := h
          refine XR_a (op_move rfl) rfl rfl ?_
          refine XR_a (op_geq rfl rfl) rfl rfl ?_
          refine XR_a (op_pick_t rfl rfl) rfl rfl ?_
          refine XR_a (op_assign rfl) rfl rfl ?_
          refine XR_nil ?_
          refine X_if rfl (fun h => ?_) (fun h => ?_)
          · refine X_seq ?_
            refine X_reg ?_
            refine XR_a (op_move rfl) rfl rfl ?_
            refine XR_a (op_min2 rfl rfl) rfl rfl ?_
            refine XR_as (nV (min r 6)) (congrArg (Value.int .i64) (by omega)) ?_
            refine XR_a (op_build (ps := [(0, nV 16), (1, nV (min r 6))]) (cs := #[nV 16, nV (min r 6)]) rfl rfl) rfl rfl ?_
            refine XR_wn (opl_store_whole (us := [nV 16, nV (min r 6)]) st 0 rfl rfl rfl rfl rfl (one_nV [16, _]) rfl) rfl rfl fun _ hp st => ?_
            simp only [List.set_cons_zero] at st
            refine XR_nil ?_
            refine X_ret (.cons (RV_agg rfl rfl rfl (st.cells 0 rfl)) .nil) ?_
            rw [hP, if_neg (by omega), if_neg (by omega), if_pos (by omega)]
            exact ⟨rfl, st.low⟩
          · have h3 := h
            refine X_skip ?_
            refine X_blk ?_
            refine X_seq ?_
            refine X_reg ?_
            refine XR_a (op_move rfl) rfl rfl ?_
            refine XR_a (op_move rfl) rfl rfl ?_
            first | refine XR_a (op_index1 rfl rfl rfl (by omega)) rfl rfl ?_ | refine XR_a (op_index rfl rfl rfl (by omega)) rfl rfl ?_
            refine XR_a (op_ld (hcx a ha) rfl rfl rfl) rfl rfl ?_
            refine XR_a (op_build (ps := [(0, nV (l.getD a 0)), (1, nV 1)]) (cs := #[nV (l.getD a 0), nV 1]) rfl rfl) rfl rfl ?_
            refine XR_wn (opl_store_whole (us := [nV (l.getD a 0), nV 1]) st 0 rfl rfl rfl rfl rfl (one_nV [_, 1]) rfl) rfl rfl fun _ hp st => ?_
            simp only [List.set_cons_zero] at st
            refine XR_nil ?_
            refine X_ret (.cons (RV_agg rfl rfl rfl (st.cells 0 rfl)) .nil) ?_
            rw [hP, if_neg (by omega), if_neg (by omega), if_neg (by omega)]
            exact ⟨rfl, st.low⟩
        · have h49 := h
          refine XR_no rfl rfl ?_
          refine XR_no rfl rfl ?_
          refine XR_a (op_pick_f rfl rfl) rfl rfl ?_
          refine XR_a (op_assign rfl) rfl rfl ?_
          refine XR_nil ?_
          refine X_else rfl ?_
          refine X_skip ?_
          refine X_blk ?_
          refine X_seq ?_
          refine X_reg ?_
          refine XR_a (op_move rfl) rfl rfl ?_
          refine XR_a (op_move rfl) rfl rfl ?_
          first | refine XR_a (op_index1 rfl rfl rfl (by omega)) rfl rfl ?_ | refine XR_a (op_index rfl rfl rfl (by omega)) rfl rfl ?_
          refine XR_a (op_ld (hcx a ha) rfl rfl rfl) rfl rfl ?_
          refine XR_a (op_build (ps := [(0, nV (l.getD a 0)), (1, nV 1)]) (cs := #[nV (l.getD a 0), nV 1]) rfl rfl) rfl rfl ?_
          refine XR_wn (opl_store_whole (us := [nV (l.getD a 0), nV 1]) st 0 rfl rfl rfl rfl rfl (one_nV [_, 1]) rfl) rfl rfl fun _ hp st => ?_
          simp only [List.set_cons_zero] at st
          refine XR_nil ?_
          refine X_ret (.cons (RV_agg rfl rfl rfl (st.cells 0 rfl)) .nil) ?_
          rw [hP, if_neg (by omega), if_neg (by omega), if_neg (by omega)]
          exact ⟨rfl, st.low⟩
      · have h37 := h
        refine XR_no rfl rfl ?_
        refine XR_no rfl rfl ?_
        refine XR_no rfl rfl ?_
        refine XR_no rfl rfl ?_
        refine XR_no rfl rfl ?_
        refine XR_no rfl rfl ?_
        refine XR_no rfl rfl ?_
        refine XR_no rfl rfl ?_
        refine XR_no rfl rfl ?_
        refine XR_no rfl rfl ?_
        refine XR_a (op_pick_f rfl rfl) rfl rfl ?_
        refine XR_a (op_move rfl) rfl rfl ?_
        refine XR_no rfl rfl ?_
        refine XR_no rfl rfl ?_
        refine XR_a (op_pick_f rfl rfl) rfl rfl ?_
        refine XR_a (op_assign rfl) rfl rfl ?_
        refine XR_nil ?_
        refine X_else rfl ?_
        refine X_skip ?_
        refine X_blk ?_
        refine X_seq ?_
        refine X_reg ?_
        refine XR_a (op_move rfl) rfl rfl ?_
        refine XR_a (op_move rfl) rfl rfl ?_
        first | refine XR_a (op_index1 rfl rfl rfl (by omega)) rfl rfl ?_ | refine XR_a (op_index rfl rfl rfl (by omega)) rfl rfl ?_
        refine XR_a (op_ld (hcx a ha) rfl rfl rfl) rfl rfl ?_
        refine XR_a (op_build (ps := [(0, nV (l.getD a 0)), (1, nV 1)]) (cs := #[nV (l.getD a 0), nV 1]) rfl rfl) rfl rfl ?_
        refine XR_wn (opl_store_whole (us := [nV (l.getD a 0), nV 1]) st 0 rfl rfl rfl rfl rfl (one_nV [_, 1]) rfl) rfl rfl fun _ hp st => ?_
        simp only [List.set_cons_zero] at st
        refine XR_nil ?_
        refine X_ret (.cons (RV_agg rfl rfl rfl (st.cells 0 rfl)) .nil) ?_
        rw [hP, if_neg (by omega), if_neg (by omega), if_neg (by omega)]
        exact ⟨rfl, st.low⟩
theorem rparts_spec {n c : Nat} {A : Option Addr} {h0 : Heap} : Ret Tryz.prog 122 [.slice A n c] h0 fun v h' => ∃ p, v = .func (.func 153) #[] #[.pointer (some ⟨p, 0, none⟩)] ∧ St h0.size h0 h' [pt p 73 [.slice A n c]] := by
  refine ret_of_X Tryz.func122 rfl rfl fun w0 hw0 => ?_
  simp only [argE, Nat.zero_add, Nat.reduceAdd]
  have st := St.start h0
  refine X_seq ?_
  refine X_reg ?_
  refine XR_wa (opl_bx rfl rfl) rfl rfl rfl ?_
  rintro _ hp ⟨p, rfl, hnew⟩
  replace st := st.new hnew
  refine XR_a (op_assign rfl) rfl rfl ?_
  refine XR_nil ?_
  refine X_seq ?_
  refine X_reg ?_
  refine XR_a (op_mkFunc rfl) rfl rfl ?_
  refine XR_a (op_assign rfl) rfl rfl ?_
  refine XR_nil ?_
  refine X_ret (.cons (.tmp rfl) .nil) ?_
  exact ⟨_, rfl, st⟩
theorem parts_iter {B y p n c : Nat} {A : Option Addr} {l : List Nat} {F : List Res} {h0 : Heap} (JR : List (Nat × Nat) → List Res) (st0 : St B h0 h0 (pt p 73 [.slice A n c] :: (JR [] ++ F)))
    (hr : ∀ h' rs, St B h0 h' (rs ++ F) → Rd h' A (l.map nV)) (hl : l.length = n) (hn : n ≤ 1048576)
    (hround : ∀ (s : List (Nat × Nat)) (x : Nat × Nat) (r : List (Nat × Nat)) (F' : List Res) (h : Heap), Low B h0 h → s ++ x :: r = partsL l 0 → St B h h (JR s ++ F') → RRet Tryz.prog y [.agg (pC2 x).toArray] h fun u h' => u = .bool true ∧ St B h h' (JR (s ++ [x]) ++ F')) :
    Ret Tryz.prog 153 [.func (.yield y) #[] #[], .pointer (some ⟨p, 0, none⟩)] h0 fun _ h' => St B h0 h' (JR (partsL l 0) ++ F) := by
  refine ret_of_X Tryz.func153 rfl rfl fun w0 hw0 => ?_
  simp only [argE, Nat.zero_add, Nat.reduceAdd]
  refine X_seq ?_
  refine X_reg ?_
  refine XR_a (op_assign rfl) rfl rfl ?_
  refine XR_nil ?_
  refine X_block ?_
  refine X_loop (fun s => n - s.1) (fun s => [(0, .func (.yield y) #[] #[]), (1, .pointer (some ⟨p, 0, none⟩)), (3, nV s.1)])
    (fun (s : Nat × List (Nat × Nat)) hp => s.1 ≤ n ∧ s.2 ++ partsL l s.1 = partsL l 0 ∧ St B h0 hp (pt p 73 [.slice A n c] :: (JR s.2 ++ F)))
    (0, []) (.cons rfl (.cons rfl (.cons rfl (.nil _)))) ⟨Nat.zero_le _, rfl, st0⟩ ?_
  rintro ⟨a, s⟩ hp ⟨ha, hs, st⟩
  simp only at ha hs st ⊢
  refine X_seq ?_
  refine X_seq ?_
  refine X_reg ?_
  refine XR_a (op_move rfl) rfl rfl ?_
  refine XR_a (op_ld (st.cell 0 (i := 0) rfl rfl) rfl rfl rfl) rfl rfl ?_
  refine XR_a (op_len rfl rfl rfl) rfl rfl ?_
  refine XR_a (op_lss rfl rfl) rfl rfl ?_
  refine XR_nil ?_
  refine X_if rfl (fun h => ?_) (fun h => ?_)
  · have hpm := partAt_many (l := l) (at_ := a) (by omega)
    have hrl := runAt_le l a
    rw [partsL_cons (by omega)] at hs
    refine X_skip ?_
    refine X_block ?_
    refine X_seq ?_
    refine X_reg ?_
    refine XR_a (op_ld (st.cell 0 (i := 0) rfl rfl) rfl rfl rfl) rfl rfl ?_
    refine XR_a (op_move rfl) rfl rfl ?_
    refine XR_wa (opl_call (rpart_spec (hr hp (pt p 73 [.slice A n c] :: JR s) st) hl (by omega) (by omega)) rfl (by kernel_rfl)) rfl rfl rfl ?_
    rintro _ hp2 ⟨rfl, hx2⟩
    replace st := st.ext hx2
    obtain ⟨x, hx⟩ : ∃ x, partAt l a = x := ⟨_, rfl⟩
    rw [hx] at hs hpm ⊢
    refine XR_wa (opl_new rfl) rfl rfl rfl ?_
    rintro _ hp ⟨p4, rfl, hnew⟩
    replace st := st.new hnew
    refine XR_wn (opl_store_whole (us := pC2 x) st 0 rfl rfl rfl rfl rfl (one_pC2 x) rfl) rfl rfl fun _ hp st => ?_
    simp only [List.set_cons_zero] at st
    have st3 := st.perm (List.perm_append_comm_assoc [pt p4 181 (pC2 x), pt p 73 [.slice A n c]] (JR s) F)
    refine XR_nil ?_
    refine X_seq ?_
    refine X_seq ?_
    refine X_reg ?_
    refine XR_a (op_move rfl) rfl rfl ?_
    refine XR_a (op_ldA (vs := pC2 x) (st.cells 0 rfl) rfl rfl rfl rfl) rfl rfl ?_
    refine XR_ya (opy_yield rfl (hround s x _ _ _ st3.low hs st3.here) rfl) rfl rfl rfl ?_
    rintro _ hp3 ⟨rfl, st4⟩
    replace st := (st3.trans st4).perm (List.perm_append_comm_assoc (JR (s ++ [x])) [pt p4 181 (pC2 x), pt p 73 [.slice A n c]] F)
    first | refine XR_a (op_notd rfl) rfl rfl ?_ | refine XR_a (op_not rfl) rfl rfl ?_
    refine XR_nil ?_
    refine X_else rfl ?_
    refine X_skip ?_
    refine X_reg ?_
    refine XR_a (op_move rfl) rfl rfl ?_
    first | refine XR_a (op_field0 rfl rfl) rfl rfl ?_ | refine XR_a (op_fieldn rfl rfl) rfl rfl ?_
    refine XR_a (op_ld (st.cell 0 (i := 1) rfl rfl) rfl rfl rfl) rfl rfl ?_
    first | refine XR_a (op_addN rfl rfl (by simp only [inK]; omega)) rfl rfl ?_ | refine XR_a (op_addI rfl rfl (by simp only [inK]; omega)) rfl rfl ?_ | refine XR_a (op_add rfl rfl) rfl rfl ?_
    refine XR_a (op_assign rfl) rfl rfl ?_
    refine XR_nil ?_
    refine X_blk ?_
    exact X_again (a + x.2, s ++ [x]) (.cons rfl (.cons rfl (.cons rfl (.nil _)))) ⟨by simp only; omega, by simp only; rw [List.append_assoc]; exact hs, st.tail⟩ (by simp only; omega)
  · refine X_exit rfl ?_
    refine X_end .nil ?_
    rw [partsL_end (by omega), List.append_nil] at hs
    rw [← hs]
    exact st.tail
theorem right1_runs (x : Int) (h0 : Heap) : Ret Tryz.prog 152 [.int .i64 x] h0 fun v h' => v = .bool (decide (x < 0 ∨ 15 < x)) ∧ h0 = h' := by
  refine ret_of_X Tryz.func152 rfl rfl fun w0 hw0 => ?_
  simp only [argE, Nat.zero_add, Nat.reduceAdd]
  refine X_seq ?_
  refine X_reg ?_
  refine XR_a (op_assign rfl) rfl rfl ?_
  refine XR_nil ?_
  refine X_seq ?_
  refine X_reg ?_
  refine XR_a (op_move rfl) rfl rfl ?_
  refine XR_a (op_lss rfl rfl) rfl rfl ?_
  refine XR_a (op_move rfl) rfl rfl ?_
  refine XR_if 5 rfl (fun h => ?_) (fun h => ?_)
  · refine XR_no rfl rfl ?_
    refine XR_no rfl rfl ?_
    refine XR_a (op_pick_t rfl rfl) rfl rfl ?_
    refine XR_a (op_assign rfl) rfl rfl ?_
    refine XR_nil ?_
    refine X_ret (.cons (.tmp rfl) .nil) ?_
    first
      | exact ⟨congrArg Value.bool (decide_eq_true (by omega)).symm, rfl⟩
      | exact ⟨congrArg Value.bool (decide_eq_decide.2 ⟨fun hh => by omega, fun hh => by omega⟩), rfl⟩
  · refine XR_a (op_move rfl) rfl rfl ?_
    refine XR_a (op_gtr rfl rfl) rfl rfl ?_
    refine XR_a (op_pick_f rfl rfl) rfl rfl ?_
    refine XR_a (op_assign rfl) rfl rfl ?_
    refine XR_nil ?_
    refine X_ret (.cons (.tmp rfl) .nil) ?_
    first
      | exact ⟨congrArg Value.bool (decide_eq_true (by omega)).symm, rfl⟩
      | exact ⟨congrArg Value.bool (decide_eq_decide.2 ⟨fun hh => by omega, fun hh => by omega⟩), rfl⟩
theorem rright_spec {n c : Nat} {A : Option Addr} {li : List Int} {h0 : Heap} (hr : Rd h0 A (li.map iV)) (hl : li.length = n) (hn : n ≤ 17592186044416) :
    Ret Tryz.prog 121 [.slice A n c] h0 fun v h' => v = .bool (decide (∀ x ∈ li, 0 ≤ x ∧ x ≤ 15)) ∧ h0 = h' := by
  refine ret_of_X Tryz.func121 rfl rfl fun w0 hw0 => ?_
  simp only [argE, Nat.zero_add, Nat.reduceAdd]
  refine X_seq ?_
  refine X_reg ?_
  refine XR_a (op_assign rfl) rfl rfl ?_
  refine XR_nil ?_
  refine X_seq ?_
  refine X_reg ?_
  refine XR_a (op_move rfl) rfl rfl ?_
  refine XR_wa (opl_call (containsFunc_spec (q := fun x => decide (x < 0 ∨ 15 < x)) (by kernel_rfl) hr hl hn (fun x _ => right1_runs x _)) rfl (by kernel_rfl)) rfl rfl rfl ?_
  rintro _ _ ⟨rfl, rfl⟩
  refine XR_a (op_not rfl) rfl rfl ?_
  rw [any_out]
  refine XR_a (op_assign rfl) rfl rfl ?_
  refine XR_nil ?_
  refine X_ret (.cons (.tmp rfl) .nil) ?_
  exact ⟨rfl, rfl⟩
theorem partsF_len (l : List Nat) : ∀ f a, (partsF l f a).length ≤ f
  | 0, _ => Nat.le_refl _
  | f + 1, a => by
    rw [partsF]
    split
    · have := partsF_len l f (a + (partAt l a).2)
      simp; omega
    · simp
theorem partsL_len (l : List Nat) : (partsL l 0).length ≤ l.length := by
  have := partsF_len l (l.length - 0) 0
  unfold partsL; omega
end Go.Bn
end

section
set_option linter.unusedVariables false
set_option linter.unusedSimpArgs false
namespace Go.Bn
def pcnt (s : List (Nat × Nat)) : List Nat := (List.range 19).map fun k => (s.map (·.1)).count k
theorem pcnt_len (s : List (Nat × Nat)) : (pcnt s).length = 19 := by simp [pcnt]
theorem pcnt_nil : pcnt [] = List.replicate 19 0 := by decide
theorem pcnt_get {s : List (Nat × Nat)} {x : Nat} (hx : x < 19) : (pcnt s)[x]? = some ((s.map (·.1)).count x) := by unfold pcnt; simp [hx]
theorem pcnt_set {s : List (Nat × Nat)} (x : Nat × Nat) : (pcnt s).set x.1 ((s.map (·.1)).count x.1 + 1) = pcnt (s ++ [x]) := by
  refine List.ext_getElem (by simp [pcnt]) fun i h1 h2 => ?_
  rw [List.getElem_set]
  by_cases h : x.1 = i
  · rw [if_pos h]
    simp only [pcnt, List.getElem_map, List.getElem_range]
    rw [List.map_append, List.count_append, h]; simp [h]
  · rw [if_neg h]
    simp only [pcnt, List.getElem_map, List.getElem_range]
    rw [List.map_append, List.count_append]
    have : ([x].map (·.1)).count i = 0 := by
      simp only [List.map_cons, List.map_nil]
      rw [List.count_singleton, beq_eq_false_iff_ne.2 h]; rfl
    rw [this, Nat.add_zero]
theorem pcnt_le (s : List (Nat × Nat)) : ∀ y ∈ pcnt s, y ≤ s.length := by
  intro y hy
  obtain ⟨k, _, rfl⟩ := List.mem_map.1 hy
  have := List.count_le_length (a := k) (l := s.map (·.1))
  rwa [List.length_map] at this
theorem partsF_mem {l : List Nat} (hb : ∀ x ∈ l, x ≤ 15) : ∀ f a, ∀ x ∈ partsF l f a, x.1 < 19 ∧ rL x.1 ≤ x.2 ∧ x.2 ≤ rH x.1
  | 0, _, x, h => by simp [partsF] at h
  | f + 1, a, x, h => by
    rw [partsF] at h
    split at h
    · rename_i ha
      rcases List.mem_cons.1 h with rfl | h
      · have := partAt_fits hb ha; exact ⟨this.1, this.2.1, this.2.2.1⟩
      · exact partsF_mem hb f _ x h
    · simp at h
theorem partsL_mem {l : List Nat} (hb : ∀ x ∈ l, x ≤ 15) : ∀ x ∈ partsL l 0, x.1 < 19 ∧ rL x.1 ≤ x.2 ∧ x.2 ≤ rH x.1 := partsF_mem hb _ _
noncomputable def plens (l : List Nat) : List Nat := lensW (pcnt (partsL l 0))
theorem plens_len (l : List Nat) : (plens l).length = 19 := by unfold plens; rw [lensW_length, pcnt_len]
theorem plens_pos {l : List Nat} (hb : ∀ x ∈ l, x ≤ 15) {x : Nat × Nat} (hx : x ∈ partsL l 0) : (plens l).getD x.1 0 ≠ 0 := by
  have h19 := (partsL_mem hb x hx).1
  have hc : 0 < ((partsL l 0).map (·.1)).count x.1 := List.count_pos_iff.2 (List.mem_map_of_mem hx)
  have hw : wkey (pcnt (partsL l 0)) x.1 = ((partsL l 0).map (·.1)).count x.1 := by unfold wkey; rw [List.getD, pcnt_get h19]; rfl
  have hm : x.1 ∈ syms (pcnt (partsL l 0)) := mem_syms.2 ⟨by rw [pcnt_len]; exact h19, by rw [hw]; exact hc⟩
  unfold plens
  rw [lensW_get (by rw [pcnt_len]; exact h19)]
  have := lenW_pos (ws := pcnt (partsL l 0)) (by rw [pcnt_len]; decide) hm
  omega
theorem plens_ok {l : List Nat} (hb : ∀ x ∈ l, x ≤ 15) (h1 : 1 ≤ l.length) : lensOK (plens l) := by
  have hx : partAt l 0 ∈ partsL l 0 := by rw [partsL_cons (by omega)]; exact List.mem_cons_self
  have hs : 1 ≤ (syms (pcnt (partsL l 0))).length := by
    have h19 := (partsL_mem hb _ hx).1
    have hc : 0 < ((partsL l 0).map (·.1)).count (partAt l 0).1 := List.count_pos_iff.2 (List.mem_map_of_mem hx)
    have hw : wkey (pcnt (partsL l 0)) (partAt l 0).1 = ((partsL l 0).map (·.1)).count (partAt l 0).1 := by unfold wkey; rw [List.getD, pcnt_get h19]; rfl
    exact List.length_pos_of_mem (mem_syms.2 ⟨by rw [pcnt_len]; exact h19, by rw [hw]; exact hc⟩)
  refine ⟨by rw [plens_len]; decide, by rw [plens_len]; decide, lensW_le _, ?_⟩
  rcases Nat.lt_or_ge 1 (syms (pcnt (partsL l 0))).length with h | h
  · exact .inl (lensW_kraft h (by rw [pcnt_len]; decide))
  · exact .inr (lensW_one (by omega) (by rw [pcnt_len]; decide))
def partBits (lens : List Nat) (x : Nat × Nat) : List Bool := codeBits (val lens x.1) (lens.getD x.1 0) ++ bitsN (rW x.1) (x.2 - rL x.1)
theorem partBits_len {lens : List Nat} (h : lensOK lens) (x : Nat × Nat) : (partBits lens x).length ≤ 22 := by
  unfold partBits
  rw [List.length_append, codeBits_length, bitsN_length]
  have h1 := rW_le x.1
  have h2 : lens.getD x.1 0 ≤ 15 := by
    rcases Nat.lt_or_ge x.1 lens.length with h3 | h3
    · rw [getD_eq h3]; exact h.2.2.1 _ (List.getElem_mem h3)
    · simp [List.getD, h3]
  omega
theorem flat_bd {α : Type} (f : α → List Bool) (b : Nat) (hf : ∀ x, (f x).length ≤ b) : ∀ s : List α, (s.flatMap f).length ≤ s.length * b
  | [] => by simp
  | x :: s => by
    have := flat_bd f b hf s
    have := hf x
    rw [List.flatMap_cons, List.length_append, List.length_cons, Nat.add_mul]; omega
noncomputable def putHead (l : List Nat) (i : Nat) : List Bool := bitsN 9 l.length ++ ((plens l).take i).flatMap (bitsN 4)
noncomputable def putR (l : List Nat) : List Bool := putHead l 19 ++ (partsL l 0).flatMap (partBits (plens l))
theorem putHead_len (l : List Nat) (i : Nat) : (putHead l i).length ≤ 9 + 76 := by
  unfold putHead
  have := flat_bd (bitsN 4) 4 (fun x => by rw [bitsN_length]; exact Nat.le_refl _) ((plens l).take i)
  rw [List.length_take, plens_len] at this
  rw [List.length_append, bitsN_length]
  omega
theorem putHead_succ {l : List Nat} {i : Nat} (hi : i < 19) : putHead l (i + 1) = putHead l i ++ bitsN 4 ((plens l).getD i 0) := by
  unfold putHead
  rw [take_snoc (by rw [plens_len]; exact hi), List.flatMap_append, List.append_assoc]; simp
end Go.Bn
set_option linter.unusedVariables false
set_option linter.unusedSimpArgs false
namespace Go.Bn
open Go
section
variable {c : Cx} {k : List SItem} {E : Env} {hp : Heap}
theorem post_mark2 {vs : List Value} {a : Act} {w : World} {D : List Deferred} {d e : Nat} (hD : D = [mark d, mark e]) (hd : hp[d]? = some (.deferred (some []))) (he : (shutH hp d)[e]? = some (.deferred (some []))) (h : RVs c.P (shutH (shutH hp d) e) E c.fn.results.toList vs) (hΦ : c.Φ (retVal vs) (shutH (shutH hp d) e)) (ho : OK c.fn.ntmps E a) (hi : Inv c.w0 w) (hw : w.heap = hp) :
    LeavesInM Fence.wide 0 c.P c.fn a.tmps c.R D .returning w := by
  subst hD
  have hh1 : (w.putObj d (.deferred none)).heap = shutH hp d := by rw [← hw]; rfl
  have ht : (Instr.takeDeferred d).run c.P w = .ok [] (w.putObj d (.deferred none)) := run_takeDeferred (by rw [hw]; exact hd)
  have ht2 : (Instr.takeDeferred e).run c.P (w.putObj d (.deferred none)) = .ok [] ((w.putObj d (.deferred none)).putObj e (.deferred none)) := run_takeDeferred (by rw [hh1]; exact he)
  refine ⟨by simp, .inl ⟨d, w.putObj d (.deferred none), rfl, ht, ?_⟩⟩
  refine ⟨by simp, .inl ⟨e, (w.putObj d (.deferred none)).putObj e (.deferred none), rfl, ht2, ?_⟩⟩
  have hh : ((w.putObj d (.deferred none)).putObj e (.deferred none)).heap = shutH (shutH hp d) e := by rw [← hw]; rfl
  exact ⟨retVal vs, results_run ho hh h, retVal vs, rfl, ⟨hi.os, hi.tape, hi.output⟩, by rw [hh]; exact hΦ⟩
attribute [local semireducible] X in
theorem X_retM2 {vs : List Value} {d e : Nat} (h : RVs c.P (shutH (shutH hp d) e) E c.fn.results.toList vs) (hΦ : c.Φ (retVal vs) (shutH (shutH hp d) e)) (hd : hp[d]? = some (.deferred (some []))) (he : (shutH hp d)[e]? = some (.deferred (some []))) (hB : c.B = bodyPostM Fence.wide 0 c.P c.fn c.R := by rfl) (hD : c.D = [mark d, mark e] := by rfl) : X c (.code .ret :: k) E hp := fun a w ho hi hw => by
  refine wpIn_ret (SQ_ret ?_ k)
  rw [hB]
  exact post_mark2 (ho.2.trans hD) hd he h hΦ ho.1 hi hw
end
end Go.Bn
end

section
set_option linter.unusedVariables false
set_option linter.unusedSimpArgs false
set_option maxHeartbeats 4000000
set_option maxRecDepth 20000
namespace Go.Bn
open Go Proofs
theorem lenAt_cast (ls : List Nat) (x : Nat) : lenAt ls (x : Int) = ls.getD x 0 := by unfold lenAt; rw [if_neg (by omega), Int.toNat_natCast]
def putE (li : List Int) : Nat := if li.length < 1 ∨ 320 < li.length then 5 else if ∀ x ∈ li, 0 ≤ x ∧ x ≤ 15 then 0 else 1
noncomputable def putL (li : List Int) : List Bool := if putE li = 0 then putR (li.map Int.toNat) else []
theorem rput_spec {B p n c : Nat} {A : Option Addr} {li : List Int} {bs : List Bool} {F : List Res} {h0 : Heap} (st0 : St B h0 h0 (wrR p bs :: F)) (hrB : ∀ h' rs, St B h0 h' (rs ++ F) → Rd h' A (li.map iV)) (hl : li.length = n) (hn : n ≤ 17592186044416) (hbs : bs.length ≤ 1048576) :
    Ret Tryz.prog 79 [.pointer (some ⟨p, 0, none⟩), .slice A n c] h0 fun v h' => v = nV (putE li) ∧ St B h0 h' (wrR p (bs ++ putL li) :: F) := by
  refine ret_of_X Tryz.func79 rfl rfl fun w0 hw0 => ?_
  simp only [argE, Nat.zero_add, Nat.reduceAdd]
  refine X_seq ?_
  refine X_reg ?_
  refine XR_wa (opl_bx (cs := [.pointer (some ⟨p, 0, none⟩)]) rfl rfl) rfl rfl rfl ?_
  rintro _ hp ⟨p2, rfl, hnew⟩
  have st := st0.new hnew
  refine XR_a (op_assign rfl) rfl rfl ?_
  refine XR_nil ?_
  refine X_seq ?_
  refine X_block ?_
  refine X_seq ?_
  refine X_reg ?_
  refine XR_a (op_move rfl) rfl rfl ?_
  refine XR_a (op_len rfl rfl rfl) rfl rfl ?_
  refine XR_a (op_lss rfl rfl) rfl rfl ?_
  refine XR_a (op_move rfl) rfl rfl ?_
  refine XR_if 21 rfl (fun h => ?_) (fun h => ?_)
  · have h21 := h
    refine XR_no rfl rfl ?_
    refine XR_no rfl rfl ?_
    refine XR_no rfl rfl ?_
    refine XR_a (op_pick_t rfl rfl) rfl rfl ?_
    refine XR_a (op_assign rfl) rfl rfl ?_
    refine XR_nil ?_
    refine X_then rfl ?_
    refine X_seq ?_
    refine X_reg ?_
    refine XR_a (op_assign rfl) rfl rfl ?_
    refine XR_nil ?_
    refine X_ret (.cons (.tmp rfl) .nil) ?_
    have he : putE li = 5 := by unfold putE; rw [if_pos (by omega)]
    unfold putL
    rw [he, if_neg (by omega), List.append_nil]
    exact ⟨rfl, st.tail⟩
  · have h21 := h
    refine XR_a (op_move rfl) rfl rfl ?_
    refine XR_a (op_len rfl rfl rfl) rfl rfl ?_
    refine XR_a (op_gtr rfl rfl) rfl rfl ?_
    refine XR_a (op_pick_f rfl rfl) rfl rfl ?_
    refine XR_a (op_assign rfl) rfl rfl ?_
    refine XR_nil ?_
    refine X_if rfl (fun h => ?_) (fun h => ?_)
    · refine X_seq ?_
      refine X_reg ?_
      refine XR_a (op_assign rfl) rfl rfl ?_
      refine XR_nil ?_
      refine X_ret (.cons (.tmp rfl) .nil) ?_
      have he : putE li = 5 := by unfold putE; rw [if_pos (by omega)]
      unfold putL
      rw [he, if_neg (by omega), List.append_nil]
      exact ⟨rfl, st.tail⟩
    · refine X_seq ?_
      refine X_reg ?_
      refine XR_a (op_ld (st.cell 0 (i := 0) rfl rfl) rfl rfl rfl) rfl rfl ?_
      refine XR_a (op_ptr_nil rfl rfl rfl) rfl rfl ?_
      refine XR_a (op_move rfl) rfl rfl ?_
      refine XR_a (op_move rfl) rfl rfl ?_
      refine XR_wa (opl_call (rright_spec (hrB _ [_, _] st) hl hn) rfl (by kernel_rfl)) rfl rfl rfl ?_
      rintro _ _ ⟨rfl, rfl⟩
      first | refine XR_a (op_notd rfl) rfl rfl ?_ | refine XR_a (op_not rfl) rfl rfl ?_
      refine XR_a (op_pick_f rfl rfl) rfl rfl ?_
      refine XR_a (op_assign rfl) rfl rfl ?_
      refine XR_nil ?_
      refine X_if rfl (fun h => ?_) (fun h => ?_)
      · refine X_seq ?_
        refine X_reg ?_
        refine XR_a (op_assign rfl) rfl rfl ?_
        refine XR_nil ?_
        refine X_ret (.cons (.tmp rfl) .nil) ?_
        have he : putE li = 1 := by unfold putE; rw [if_neg (by omega), if_neg h]
        unfold putL
        rw [he, if_neg (by omega), List.append_nil]
        exact ⟨rfl, st.tail⟩
      · have hb := Decidable.not_not.1 h
        have he : putE li = 0 := by unfold putE; rw [if_neg (by omega), if_pos hb]
        have hpl : putL li = putR (li.map Int.toNat) := by unfold putL; rw [if_pos he]
        have hb2 : ∀ x ∈ li.map Int.toNat, x ≤ 15 := fun x hx => by obtain ⟨y, hy, rfl⟩ := List.mem_map.1 hx; have := hb y hy; omega
        have hrN : ∀ h' rs, St B h0 h' (rs ++ F) → Rd h' A ((li.map Int.toNat).map nV) := fun h' rs hs => by rw [nV_iV, toNat_map fun x hx => (hb x hx).1]; exact hrB h' rs hs
        have hlN : (li.map Int.toNat).length = n := by rw [List.length_map]; exact hl
        rw [he, hpl]
        obtain ⟨ls, hls⟩ : ∃ ls, li.map Int.toNat = ls := ⟨_, rfl⟩
        rw [hls] at hb2 hrN hlN
        rw [hls]
        have hpm := partsL_mem hb2
        have hplen := partsL_len ls
        have hok := plens_ok hb2 (by omega)
        have h19 := plens_len ls
        refine X_skip ?_
        refine X_blk ?_
        refine X_seq ?_
        refine X_reg ?_
        refine XR_wa (opl_mk (n := 19) (by omega) rfl rfl rfl) rfl rfl rfl ?_
        rintro v hp hnew
        replace st := st.new hnew
        obtain ⟨go, no, co, rfl, hno, _⟩ := st.row0 0 rfl (by rw [List.length_replicate]; omega)
        obtain rfl : no = 19 := by simpa using hno.symm
        rw [show List.replicate 19 (Value.int .i64 0) = (pcnt []).map nV by rw [pcnt_nil, List.map_replicate]; rfl] at st
        refine XR_wa (opl_new rfl) rfl rfl rfl ?_
        rintro _ hp ⟨p5, rfl, hnew⟩
        replace st := st.new hnew
        refine XR_wn (opl_store_pt st 0 rfl rfl rfl rfl rfl (rfl)) rfl rfl fun _ hp st => ?_
        simp only [List.set_cons_zero, List.set_cons_succ] at st
        refine XR_nil ?_
        refine X_seq ?_
        refine X_seq ?_
        refine X_reg ?_
        refine XR_a (op_move rfl) rfl rfl ?_
        refine XR_wa (opl_call (rparts_spec) rfl (by kernel_rfl)) rfl rfl rfl ?_
        rintro _ hp3 ⟨pp, rfl, st3⟩
        replace st := st.join st3
        simp only [List.cons_append, List.nil_append] at st
        refine XR_nil ?_
        refine X_block ?_
        refine X_rangeS st rfl rfl (by kernel_rfl) fun fn tmps L1 y1 d1 hp1 hL1 hok1 hx1 st1 => ?_
        obtain ⟨JR, hJR⟩ : ∃ JR : List (Nat × Nat) → List Res, JR = fun s => [obj y1 (L1 .ready none), pt p5 73 [.slice (some ⟨go, 0, none⟩) 19 co], Bn.row 3 1 (.slice (some ⟨go, 0, none⟩) 19 co) ((pcnt s).map nV)] := ⟨_, rfl⟩
        have st2 := St.reF [_, _, _, _, _] 5 st1 [2, 0, 3, 4, 1] (by decide)
        simp only [List.map_cons, List.map_nil, getR, List.cons_append, List.nil_append] at st2
        have st11 : St B h0 hp1 (pt pp 73 [.slice A n c] :: (JR [] ++ (obj d1 (.deferred (some [])) :: pt p2 41 [.pointer (some ⟨p, 0, none⟩)] :: wrR p bs :: F))) := by rw [hJR]; exact st2
        refine Ret.mono (parts_iter JR st11.here (fun h' rs hs => hrN h' (rs ++ [_, _, _]) (by rw [List.append_assoc]; exact st11.trans hs)) hlN (by omega) ?_) ?_
        · intro s x r F' h hlow hsP st2
          subst hL1
          subst hJR
          simp only [List.cons_append, List.nil_append] at st2
          have hx19 := (hpm x (by rw [← hsP]; simp)).1
          have hsl : s.length < (partsL ls 0).length := by rw [← hsP]; simp
          have hcl := pcnt_le s
          have hog := pcnt_get (s := s) hx19
          have hcx : (s.map (·.1)).count x.1 ≤ s.length := hcl _ (List.mem_of_getElem? hog)
          refine rret_of_X (st2.obj_at 0 rfl) hok1 rfl rfl fun w0 hw0 => ?_
          simp only [penv]
          refine X_reg ?_
          refine XR_wa (opl_new rfl) rfl rfl rfl ?_
          rintro _ hp ⟨p6, rfl, hnew⟩
          have st := st2.new hnew
          refine XR_wn (opl_store_whole (us := pC2 x) st 0 rfl rfl rfl rfl rfl (one_pC2 x) rfl) rfl rfl fun _ hp st => ?_
          simp only [List.set_cons_zero] at st
          refine XR_nil ?_
          refine X_begin (st.obj_at 1 rfl) ?_
          replace st := st.loop 1 .busy none rfl
          simp only [List.set_cons_zero, List.set_cons_succ] at st
          obtain ⟨_, _, he8, hc8⟩ := (st.rdS 3 rfl).2.at_ (by rw [List.length_map, pcnt_len]; omega)
          cases he8
          have hov := hc8 _ _ (map_get_nV hog)
          refine X_block ?_
          refine X_reg ?_
          refine XR_a (op_ld (st.cell 2 (i := 0) rfl rfl) rfl rfl rfl) rfl rfl ?_
          first | refine XR_a (op_field0 rfl rfl) rfl rfl ?_ | refine XR_a (op_fieldn rfl rfl) rfl rfl ?_
          refine XR_a (op_ld (st.cell 0 (i := 0) rfl rfl) rfl rfl rfl) rfl rfl ?_
          first | refine XR_a (op_index1 rfl rfl rfl (by omega)) rfl rfl ?_ | refine XR_a (op_index rfl rfl rfl (by omega)) rfl rfl ?_
          refine XR_a (op_ld (hov) rfl rfl rfl) rfl rfl ?_
          first | refine XR_a (op_addN (n := 1) rfl rfl (by simp only [inK]; omega)) rfl rfl ?_ | refine XR_a (op_addI rfl rfl (by simp only [inK]; omega)) rfl rfl ?_ | refine XR_a (op_add rfl rfl) rfl rfl ?_
          first | refine XR_a (op_index1 rfl rfl rfl (by omega)) rfl rfl ?_ | refine XR_a (op_index rfl rfl rfl (by omega)) rfl rfl ?_
          refine XR_wn (opl_store_row (v := nV ((s.map (·.1)).count x.1 + 1)) st 3 rfl rfl rfl (by rw [List.length_map, pcnt_len]; exact hx19) rfl rfl) rfl rfl fun _ hp st => ?_
          simp only [List.set_cons_zero, List.set_cons_succ] at st
          rw [map_set_nV, pcnt_set] at st
          refine XR_nil ?_
          refine X_blk ?_
          refine X_rnd (st.obj_at 1 rfl) ⟨rfl, ?_⟩
          replace st := st.loop 1 .ready none rfl
          simp only [List.set_cons_zero, List.set_cons_succ] at st
          exact st.tail
        rintro _ h' st3
        subst hJR
        simp only [List.cons_append, List.nil_append] at st3
        refine .inl ⟨_, st11.trans st3, fun hp3 st4 => ?_⟩
        have st := st4
        have hrdP := (st.rdS 2 rfl).2
        rw [nV_iV] at hrdP
        have hbW : boundedB 1073741824 ((pcnt (partsL ls 0)).map fun n : Nat => (n : Int)) := by
          refine ⟨by rw [List.length_map, pcnt_len]; omega, fun x hx => ?_⟩
          obtain ⟨y, hy, rfl⟩ := List.mem_map.1 hx
          have := pcnt_le _ y hy; omega
        have hlI : lensI ((pcnt (partsL ls 0)).map fun n : Nat => (n : Int)) = plens ls := by
          unfold lensI
          rw [if_pos (errW_zero.2 hbW), cast_toNat]; rfl
        have hRC : rightC ((plens ls).map fun n : Nat => (n : Int)) := by
          refine ⟨by rw [List.length_map, h19]; omega, ⟨by rw [List.length_map, h19]; omega, fun x hx => ?_⟩, by rw [cast_toNat]; exact hok.2.2.2⟩
          obtain ⟨y, hy, rfl⟩ := List.mem_map.1 hx
          have := hok.2.2.1 y hy; omega
        refine X_blk ?_
        refine X_seq ?_
        refine X_reg ?_
        refine XR_a (op_ld (st.cell 1 (i := 0) rfl rfl) rfl rfl rfl) rfl rfl ?_
        refine XR_wa (opl_call (lengths_spec hrdP (by rw [List.length_map, pcnt_len]) (by omega)) rfl (by kernel_rfl)) rfl rfl rfl ?_
        rintro _ hp5 ⟨v7, rfl, st5⟩
        rw [hlI] at st5
        obtain ⟨A7, n7, c7, rfl, hl7, _, _, hrd7⟩ := st5.row 0 rfl
        rw [List.length_map, h19, Nat.mul_one] at hl7
        obtain rfl : n7 = 19 := by omega
        replace st := st.join st5
        simp only [List.cons_append, List.nil_append] at st
        have hrd7I := hrd7
        rw [nV_iV] at hrd7I
        refine XR_a (op_move rfl) rfl rfl ?_
        refine XR_a (op_extract rfl rfl) rfl rfl ?_
        refine XR_a (op_extract rfl rfl) rfl rfl ?_
        refine XR_a (op_assign rfl) rfl rfl ?_
        refine XR_a (op_assign rfl) rfl rfl ?_
        refine XR_nil ?_
        refine X_seq ?_
        refine X_reg ?_
        refine XR_a (op_move rfl) rfl rfl ?_
        refine XR_wa (opl_call (cnew_spec hrd7I (by rw [List.length_map, h19]) (by omega)) rfl (by kernel_rfl)) rfl rfl rfl ?_
        rintro _ hp6 ⟨w, rfl, hx6, hy6, _⟩
        obtain ⟨pc, rfl, sc⟩ := hy6 hRC
        rw [cast_toNat] at sc
        replace st := st.join sc
        simp only [List.cons_append, List.nil_append] at st
        refine XR_a (op_move rfl) rfl rfl ?_
        refine XR_a (op_extract rfl rfl) rfl rfl ?_
        refine XR_a (op_extract rfl rfl) rfl rfl ?_
        refine XR_wa (opl_new rfl) rfl rfl rfl ?_
        rintro _ hp ⟨p9, rfl, hnew⟩
        replace st := st.new hnew
        refine XR_wn (opl_store_pt st 0 rfl rfl rfl rfl rfl (rfl)) rfl rfl fun _ hp st => ?_
        simp only [List.set_cons_zero, List.set_cons_succ] at st
        refine XR_a (op_assign rfl) rfl rfl ?_
        refine XR_nil ?_
        refine X_seq ?_
        replace st := St.reF [_, _, _, _, _, _, _, _, _] 9 st [3, 4, 5, 8, 1, 7, 0, 2, 6] (by decide)
        simp only [List.map_cons, List.map_nil, getR, List.cons_append, List.nil_append] at st
        replace st := st.tail.tail.tail
        refine X_reg ?_
        refine XR_a (op_ld (st.cell 2 (i := 0) rfl rfl) rfl rfl rfl) rfl rfl ?_
        refine XR_a (op_move rfl) rfl rfl ?_
        refine XR_a (op_len rfl rfl rfl) rfl rfl ?_
        refine XR_a (op_convI (k' := .u32) rfl rfl (by simp only [inK]; omega)) rfl rfl ?_
        refine XR_wa (opl_call (put_spec (n := n) (k := 9) st.here (by omega) (by omega)) rfl (by kernel_rfl)) rfl rfl rfl ?_
        rintro _ hp7 ⟨rfl, st7⟩
        rw [show wd 32 9 = 9 from rfl] at st7
        replace st := st.trans st7
        refine XR_nil ?_
        refine X_seq ?_
        refine X_seq ?_
        refine X_reg ?_
        refine XR_a (op_move rfl) rfl rfl ?_
        refine XR_a (op_len rfl rfl rfl) rfl rfl ?_
        refine XR_a (op_move rfl) rfl rfl ?_
        refine XR_nil ?_
        refine X_block ?_
        have hh0 : bs ++ bitsN 9 n = bs ++ putHead ls 0 := by unfold putHead; rw [hlN]; simp
        rw [hh0] at st
        refine X_loop (fun i => 19 - i) (fun i => [(1, .slice A n c), (2, .pointer (some ⟨p2, 0, none⟩)), (9, .pointer (some ⟨p9, 0, none⟩)), (60, .slice A7 19 c7), (61, nV 19), (62, nV i)])
          (fun (i : Nat) hp => i ≤ 19 ∧ St B h0 hp (wrR p (bs ++ putHead ls i) :: codeR pc (plens ls) :: pt p2 41 [.pointer (some ⟨p, 0, none⟩)] :: pt p9 68 [.pointer (some ⟨pc, 0, none⟩)] :: Bn.row 3 1 (.slice A7 19 c7) ((plens ls).map nV) :: obj d1 (.deferred (some [])) :: F))
          0 (.cons rfl (.cons rfl (.cons rfl (.cons rfl (.cons rfl (.cons rfl (.nil _))))))) ⟨Nat.zero_le _, st⟩ ?_
        clear st st7
        rintro i hp8 ⟨hi, st⟩
        refine X_seq ?_
        refine X_reg ?_
        refine XR_a (op_lss rfl rfl) rfl rfl ?_
        refine XR_nil ?_
        refine X_seq ?_
        refine X_if rfl (fun h => ?_) (fun h => ?_)
        · obtain ⟨g7, o7, rfl, hc7⟩ := (st.rdS 4 rfl).2.at_ (by rw [List.length_map]; omega)
          have hli := hc7 i (nV ((plens ls).getD i 0)) (by rw [List.getElem?_map, List.getElem?_eq_getElem (by omega), getD_eq (by omega)]; rfl)
          have hl15 : (plens ls).getD i 0 ≤ 15 := by rw [getD_eq (by omega)]; exact hok.2.2.1 _ (List.getElem_mem _)
          have hhl := putHead_len ls i
          refine X_skip ?_
          refine X_seq ?_
          refine X_block ?_
          refine X_seq ?_
          refine X_reg ?_
          first | refine XR_a (op_index1 rfl rfl rfl (by omega)) rfl rfl ?_ | refine XR_a (op_index rfl rfl rfl (by omega)) rfl rfl ?_
          refine XR_a (op_ld (hli) rfl rfl rfl) rfl rfl ?_
          refine XR_a (op_assign rfl) rfl rfl ?_
          refine XR_nil ?_
          refine X_reg ?_
          refine XR_a (op_ld (st.cell 2 (i := 0) rfl rfl) rfl rfl rfl) rfl rfl ?_
          refine XR_a (op_move rfl) rfl rfl ?_
          refine XR_a (op_convI (k' := .u32) rfl rfl (by simp only [inK]; omega)) rfl rfl ?_
          refine XR_wa (opl_call (put_spec (n := (plens ls).getD i 0) (k := 4) st.here (by omega) (by rw [List.length_append]; omega)) rfl (by kernel_rfl)) rfl rfl rfl ?_
          rintro _ hp9 ⟨rfl, st9⟩
          rw [show wd 32 4 = 4 from rfl, List.append_assoc, ← putHead_succ (by omega)] at st9
          replace st := st.trans st9
          refine XR_nil ?_
          refine X_blk ?_
          refine X_reg ?_
          first | refine XR_a (op_addN (n := 1) rfl rfl (by simp only [inK]; omega)) rfl rfl ?_ | refine XR_a (op_addI rfl rfl (by simp only [inK]; omega)) rfl rfl ?_ | refine XR_a (op_add rfl rfl) rfl rfl ?_
          refine XR_a (op_move rfl) rfl rfl ?_
          refine XR_nil ?_
          exact X_again (i + 1) (.cons rfl (.cons rfl (.cons rfl (.cons rfl (.cons rfl (.cons rfl (.nil _))))))) ⟨by omega, st⟩ (by omega)
        · refine X_exit rfl ?_
          refine X_seq ?_
          refine X_seq ?_
          obtain rfl : i = 19 := by omega
          have hhl := putHead_len ls 19
          refine X_reg ?_
          refine XR_a (op_move rfl) rfl rfl ?_
          refine XR_wa (opl_call (rparts_spec) rfl (by kernel_rfl)) rfl rfl rfl ?_
          rintro _ hp10 ⟨pp2, rfl, st10⟩
          replace st := st.join st10
          simp only [List.cons_append, List.nil_append] at st
          refine XR_nil ?_
          refine X_block ?_
          refine X_rangeS st rfl rfl (by kernel_rfl) fun fn2 tmps2 L2 y2 d2 hp2 hL2 hok2 hx2 st1 => ?_
          obtain ⟨JR, hJR⟩ : ∃ JR : List (Nat × Nat) → List Res, JR = fun s => [obj y2 (L2 .ready none), wrR p (bs ++ putHead ls 19 ++ s.flatMap (partBits (plens ls))), codeR pc (plens ls), pt p2 41 [.pointer (some ⟨p, 0, none⟩)], pt p9 68 [.pointer (some ⟨pc, 0, none⟩)]] := ⟨_, rfl⟩
          have st2 := St.reF [_, _, _, _, _, _, _, _, _] 9 st1 [2, 0, 3, 4, 5, 6, 1, 7, 8] (by decide)
          simp only [List.map_cons, List.map_nil, getR, List.cons_append, List.nil_append] at st2
          have st12 : St B h0 hp2 (pt pp2 73 [.slice A n c] :: (JR [] ++ (obj d2 (.deferred (some [])) :: Bn.row 3 1 (.slice A7 19 c7) ((plens ls).map nV) :: obj d1 (.deferred (some [])) :: F))) := by rw [hJR]; simpa using st2
          refine Ret.mono (parts_iter JR st12.here (fun h' rs hs => hrN h' (rs ++ [_, _, _]) (by rw [List.append_assoc]; exact st12.trans hs)) hlN (by omega) ?_) ?_
          · intro s x r F' h hlow hsP st2
            subst hL2
            subst hJR
            simp only [List.cons_append, List.nil_append] at st2
            obtain ⟨hx19, hxL, hxH⟩ := hpm x (by rw [← hsP]; simp)
            have hxh := rH_le x.1
            have hsl : s.length < (partsL ls 0).length := by rw [← hsP]; simp
            have hfb := flat_bd (partBits (plens ls)) 22 (partBits_len hok) s
            have hpb := partBits_len hok x
            refine rret_of_X (st2.obj_at 0 rfl) hok2 rfl rfl fun w0 hw0 => ?_
            simp only [penv]
            refine X_reg ?_
            refine XR_wa (opl_new rfl) rfl rfl rfl ?_
            rintro _ hp ⟨p13, rfl, hnew⟩
            have st := st2.new hnew
            refine XR_wn (opl_store_whole (us := pC2 x) st 0 rfl rfl rfl rfl rfl (one_pC2 x) rfl) rfl rfl fun _ hp st => ?_
            simp only [List.set_cons_zero] at st
            refine XR_nil ?_
            refine X_begin (st.obj_at 1 rfl) ?_
            replace st := st.loop 1 .busy none rfl
            simp only [List.set_cons_zero, List.set_cons_succ] at st
            replace st := St.reF [_, _, _, _, _, _] 6 st [2, 3, 0, 1, 4, 5] (by decide)
            simp only [List.map_cons, List.map_nil, getR, List.cons_append, List.nil_append] at st
            refine X_block ?_
            refine X_seq ?_
            refine X_reg ?_
            first | refine XR_a (op_field0 rfl rfl) rfl rfl ?_ | refine XR_a (op_fieldn rfl rfl) rfl rfl ?_
            refine XR_a (op_ld (st.cell 2 (i := 0) rfl rfl) rfl rfl rfl) rfl rfl ?_
            refine XR_wa (opl_call (bounds_spec x.1 _) rfl (by kernel_rfl)) rfl rfl rfl ?_
            rintro _ _ ⟨rfl, rfl⟩
            refine XR_a (op_move rfl) rfl rfl ?_
            refine XR_a (op_extract rfl rfl) rfl rfl ?_
            refine XR_a (op_extract rfl rfl) rfl rfl ?_
            refine XR_a (op_extract rfl rfl) rfl rfl ?_
            refine XR_a (op_assign rfl) rfl rfl ?_
            refine XR_a (op_assign rfl) rfl rfl ?_
            refine XR_a (op_assign rfl) rfl rfl ?_
            refine XR_nil ?_
            refine X_seq ?_
            refine X_reg ?_
            refine XR_a (op_ld (st.cell 5 (i := 0) rfl rfl) rfl rfl rfl) rfl rfl ?_
            refine XR_a (op_ld (st.cell 4 (i := 0) rfl rfl) rfl rfl rfl) rfl rfl ?_
            first | refine XR_a (op_field0 rfl rfl) rfl rfl ?_ | refine XR_a (op_fieldn rfl rfl) rfl rfl ?_
            refine XR_a (op_ld (st.cell 2 (i := 0) rfl rfl) rfl rfl rfl) rfl rfl ?_
            refine XR_wa (opl_call (cput_spec (s := (x.1 : Nat)) st.here hok (by simp only [List.length_append]; omega)) rfl (by kernel_rfl)) rfl rfl rfl ?_
            rintro _ hp14 ⟨rfl, st14⟩
            rw [lenAt_cast, Int.toNat_natCast] at st14
            replace st := st.trans st14
            refine XR_nil ?_
            refine X_reg ?_
            refine XR_a (op_ld (st.cell 4 (i := 0) rfl rfl) rfl rfl rfl) rfl rfl ?_
            first | refine XR_a (op_field0 rfl rfl) rfl rfl ?_ | refine XR_a (op_fieldn rfl rfl) rfl rfl ?_
            refine XR_a (op_ld (st.cell 2 (i := 1) rfl rfl) rfl rfl rfl) rfl rfl ?_
            refine XR_a (op_move rfl) rfl rfl ?_
            refine XR_a (op_subN (m := x.2) (n := rL x.1) rfl rfl hxL (by simp only [inK]; omega)) rfl rfl ?_
            refine XR_a (op_convI (k' := .u32) rfl rfl (by simp only [inK]; omega)) rfl rfl ?_
            refine XR_a (op_move rfl) rfl rfl ?_
            refine XR_wa (opl_call (put_spec (n := x.2 - rL x.1) (k := ((rW x.1 : Nat) : Int)) st.here (by omega) (by simp only [List.length_append, codeBits_length]; have h15 : (plens ls).getD x.1 0 ≤ 15 := by { rw [getD_eq (by omega)]; exact hok.2.2.1 _ (List.getElem_mem _) }; omega)) rfl (by kernel_rfl)) rfl rfl rfl ?_
            rintro _ hp15 ⟨rfl, st15⟩
            rw [wd_nat (by have := rW_le x.1; omega)] at st15
            replace st := st.trans st15
            refine XR_nil ?_
            refine X_blk ?_
            refine X_rnd (st.obj_at 3 rfl) ⟨rfl, ?_⟩
            replace st := st.loop 3 .ready none rfl
            simp only [List.set_cons_zero, List.set_cons_succ] at st
            have e : bs ++ putHead ls 19 ++ s.flatMap (partBits (plens ls)) ++ codeBits (val (plens ls) x.1) ((plens ls).getD x.1 0) ++ bitsN (rW x.1) (x.2 - rL x.1) = bs ++ putHead ls 19 ++ (s ++ [x]).flatMap (partBits (plens ls)) := by
              rw [List.flatMap_append]
              simp [partBits]
            rw [e] at st
            replace st := St.reF [_, _, _, _, _, _] 6 st [2, 3, 0, 1, 4, 5] (by decide)
            simp only [List.map_cons, List.map_nil, getR, List.cons_append, List.nil_append] at st
            exact st.tail
          rintro _ h' st3
          subst hJR
          simp only [List.cons_append, List.nil_append] at st3
          refine .inl ⟨_, st12.trans st3, fun hp3 st4 => ?_⟩
          have st := st4
          refine X_blk ?_
          refine X_seq ?_
          refine X_reg ?_
          refine XR_a (op_assign rfl) rfl rfl ?_
          refine XR_nil ?_
          refine X_retM2 (d := d2) (e := d1) (.cons (.tmp rfl) .nil) ?_ (st.obj_at 5 rfl) ((st.put 5 (.deferred none) rfl).obj_at 7 rfl)
          replace st := (st.put 5 (.deferred none) rfl).put 7 (.deferred none) rfl
          simp only [List.set_cons_zero, List.set_cons_succ] at st
          replace st := St.reF [_, _, _, _, _, _, _, _] 8 st [0, 2, 3, 4, 5, 6, 7, 1] (by decide)
          simp only [List.map_cons, List.map_nil, getR, List.cons_append, List.nil_append] at st
          refine ⟨rfl, ?_⟩
          unfold putR
          rw [← List.append_assoc]
          exact st.tail.tail.tail.tail.tail.tail.tail
end Go.Bn
end
