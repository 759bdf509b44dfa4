/- Packed texts of a claim: what its theorem uses, joined. -/
import Derived.Test.YtoodeecmplpndaaPkS7x9
section
set_option linter.unusedVariables false
set_option linter.unusedSimpArgs false
set_option maxHeartbeats 4000000
set_option maxRecDepth 20000
namespace Go.Bn
open Go Proofs
theorem eqRun_is {x : Nat} : ∀ {d : List Nat} {k : Nat}, k ≤ d.length → (∀ i, i < k → d.getD i 0 = x) → (d.length ≤ k ∨ d.getD k 0 ≠ x) → eqRun x d = k
 | [], k, h1, _, _ => by
  have : k = 0 := by simpa using h1
  subst this; rfl
 | y :: r, 0, h1, h2, h3 => by
  unfold eqRun
  rcases h3 with h3 | h3
  ·simp at h3
  ·rw [if_neg (by simpa using h3)]
 | y :: r, k + 1, h1, h2, h3 => by
  have hy := h2 0 (by omega)
  rw [List.getD_cons_zero] at hy
  unfold eqRun
  rw [if_pos hy, eqRun_is (k := k) (by simpa using h1) (fun i hi => by have := h2 (i + 1) (by omega); rwa [List.getD_cons_succ] at this) (by rw [List.getD_cons_succ] at h3; simpa using h3)]
theorem getD_drop (l : List Nat) (a i : Nat) : (l.drop a).getD i 0 = l.getD (a + i) 0 := by simp [List.getD, List.getElem?_drop]
theorem rrow_spec {n c a : Nat} {A : Option Addr} {l : List Nat} {h0 : Heap} (hr : Rd h0 A (l.map nV)) (hl : l.length = n) (hn : n ≤ 17592186044416) (ha : a < n) :
  Ret Try.prog 134 [.slice A n c, nV a] h0 fun v h' => v = nV (runAt l a) ∧ h0 = h' := by
 obtain ⟨g, o, rfl, hc⟩ := hr.at_ (by rw [List.length_map]; omega)
 have hci : ∀ i, i < n → cellH h0 ⟨g, o + i, none⟩ = some (nV (l.getD i 0)) := fun i hi => hc i _ (by rw [List.getElem?_map, List.getElem?_eq_getElem (by omega), getD_get (by omega)]; rfl)
 refine ret_of_X Try.func134 rfl rfl fun w0 hw0 => ?_
 simp only [argE, Nat.zero_add, Nat.reduceAdd]
 refine X_seq (X_reg (XA rfl rfl rfl (XR_nil (X_seq (X_reg (XA rfl rfl rfl (XR_nil (X_seq (X_block ?_)))))))))
 refine X_loop (fun k => n - k) (fun k => [(0, .slice (some ⟨g, o, none⟩) n c), (1, nV a), (5, nV k)])
  (fun (k : Nat) hp => h0 = hp ∧ a + k ≤ n ∧ ∀ i, i < k → l.getD (a + i) 0 = l.getD a 0)
  0 (.cons rfl (.cons rfl (.cons rfl (.nil _)))) ⟨rfl, by omega, fun i hi => by omega⟩ ?_
 rintro k hp ⟨rfl, hk, hall⟩
 have hfin : (n ≤ a + k ∨ l.getD (a + k) 0 ≠ l.getD a 0) → runAt l a = k := fun h => by
  unfold runAt
  refine eqRun_is (by rw [List.length_drop]; omega) (fun i hi => by rw [getD_drop]; exact hall i hi) ?_
  rw [List.length_drop, getD_drop]
  rcases h with h | h
  ·left; omega
  ·exact .inr h
 refine X_seq (X_seq ?_)
 refine X_draw byKind (by kernel_rfl) (by kernel_rfl) ?_
 refine XV rfl rfl rfl (XV rfl rfl rfl ?_)
 first | refine XR_a (op_addN rfl rfl (by simp only [inK]; omega)) rfl rfl ?_ | refine XR_a (op_addI rfl rfl (by simp only [inK]; omega)) rfl rfl ?_ | refine XR_a (op_add rfl rfl) rfl rfl ?_
 refine XV rfl rfl rfl ?_
 refine XR_a (op_len rfl rfl rfl) rfl rfl ?_
 refine XR_a (op_lss rfl rfl) rfl rfl ?_
 refine XV rfl rfl rfl ?_
 refine XR_if 12 rfl (fun h => ?_) (fun h => ?_)
 ·have h12 := h
  refine XV rfl rfl rfl (XV rfl rfl rfl (XV rfl rfl rfl ?_))
  first | refine XR_a (op_addN rfl rfl (by simp only [inK]; omega)) rfl rfl ?_ | refine XR_a (op_addI rfl rfl (by simp only [inK]; omega)) rfl rfl ?_ | refine XR_a (op_add rfl rfl) rfl rfl ?_
  refine XR_a (op_index1 (i := a + k) rfl rfl rfl (by omega)) rfl rfl ?_
  refine XR_a (op_ld (hci (a + k) (by omega)) rfl rfl rfl) rfl rfl ?_
  refine XV rfl rfl rfl (XV rfl rfl rfl ?_)
  first | refine XR_a (op_index1 rfl rfl rfl (by omega)) rfl rfl ?_ | refine XR_a (op_index rfl rfl rfl (by omega)) rfl rfl ?_
  refine XR_a (op_ld (hci a (by omega)) rfl rfl rfl) rfl rfl ?_
  refine XR_a (op_eql rfl rfl) rfl rfl ?_
  refine XR_a (op_pick_t rfl rfl) rfl rfl (XR_nil ?_)
  refine X_if rfl (fun h => ?_) (fun h => ?_)
  ·refine X_skip (X_block (X_reg (XV rfl rfl rfl ?_)))
   first | refine XR_a (op_addN (n := 1) rfl rfl (by simp only [inK]; omega)) rfl rfl ?_ | refine XR_a (op_addI rfl rfl (by simp only [inK]; omega)) rfl rfl ?_ | refine XR_a (op_add rfl rfl) rfl rfl ?_
   refine XA rfl rfl rfl (XR_nil (X_blk ?_))
   exact X_again (k + 1) (.cons rfl (.cons rfl (.cons rfl (.nil _)))) ⟨rfl, by omega, fun i hi => by
    rcases Nat.lt_or_ge i k with h9 | h9
    ·exact hall i h9
    ·obtain rfl : i = k := by omega
     omega⟩ (by omega)
  ·refine X_exit rfl (X_seq (X_reg (XV rfl rfl rfl (XA rfl rfl rfl (XR_nil ?_)))))
   refine X_ret (.cons (.tmp rfl) .nil) ?_
   rw [hfin (.inr (by omega))]
   exact ⟨rfl, rfl⟩
 ·refine XR_no rfl rfl (XR_no rfl rfl (XR_no rfl rfl (XR_no rfl rfl (XR_no rfl rfl (XR_no rfl rfl (XR_no rfl rfl (XR_no rfl rfl (XR_no rfl rfl (XR_no rfl rfl ?_)))))))))
  refine XR_no rfl rfl (XR_a (op_pick_f rfl rfl) rfl rfl (XR_nil (X_else rfl (X_exit rfl (X_seq (X_reg (XV rfl rfl rfl (XA rfl rfl rfl (XR_nil ?_)))))))))
  refine X_ret (.cons (.tmp rfl) .nil) ?_
  rw [hfin (.inl (by omega))]
  exact ⟨rfl, rfl⟩
def pC2 (x : Nat × Nat) : List Value := [nV x.1, nV x.2]
theorem one_pC2 (x : Nat × Nat) : ∀ u ∈ pC2 x, Value.one u = true := one_nV [x.1, x.2]
theorem rpart_spec {n c a : Nat} {A : Option Addr} {l : List Nat} {h0 : Heap} (hr : Rd h0 A (l.map nV)) (hl : l.length = n) (hn : n ≤ 17592186044416) (ha : a < n) :
  Ret Try.prog 119 [.slice A n c, nV a] h0 fun v h' => v = .agg (pC2 (partAt l a)).toArray ∧ Ext h0 h' := by
 obtain ⟨g, o, rfl, hc⟩ := hr.at_ (by rw [List.length_map]; omega)
 have hci : ∀ i, i < n → cellH h0 ⟨g, o + i, none⟩ = some (nV (l.getD i 0)) := fun i hi => hc i _ (by rw [List.getElem?_map, List.getElem?_eq_getElem (by omega), getD_get (by omega)]; rfl)
 have hP : partAt l a = if l.getD a 0 = 0 ∧ 11 ≤ runAt l a then (18, min (runAt l a) 138) else if l.getD a 0 = 0 ∧ 3 ≤ runAt l a then (17, runAt l a) else
  if 0 < a ∧ l.getD a 0 = l.getD (a - 1) 0 ∧ 3 ≤ runAt l a then (16, min (runAt l a) 6) else (l.getD a 0, 1) := rfl
 have hrl := runAt_le l a
 refine ret_of_X Try.func119 rfl rfl fun w0 hw0 => ?_
 simp only [argE, Nat.zero_add, Nat.reduceAdd]
 have st := St.start h0
 refine X_seq (X_reg ?_)
 refine XR_wa (opl_new rfl) rfl rfl rfl ?_
 rintro _ hp ⟨p, rfl, hnew⟩
 replace st := st.new hnew
 have hcx := fun i (hi : i < n) => cellH_ext (a := ⟨g, o + i, none⟩) st.low (hci i hi)
 refine XR_nil (X_seq (X_reg (XV rfl rfl rfl (XV rfl rfl rfl ?_))))
 refine XR_wa (opl_call (rrow_spec (hr.ext st.low) hl hn ha) rfl (by kernel_rfl)) rfl rfl rfl ?_
 rintro _ _ ⟨rfl, rfl⟩
 obtain ⟨r, hre⟩ : ∃ r, runAt l a = r := ⟨_, rfl⟩
 rw [hre] at hP hrl ⊢
 refine XA rfl rfl rfl (XR_nil (X_seq (X_block (X_seq (X_reg (XV rfl rfl rfl (XV rfl rfl rfl ?_)))))))
 first | refine XR_a (op_index1 rfl rfl rfl (by omega)) rfl rfl ?_ | refine XR_a (op_index rfl rfl rfl (by omega)) rfl rfl ?_
 refine XR_a (op_ld (hcx a ha) rfl rfl rfl) rfl rfl ?_
 refine XR_a (op_eql rfl rfl) rfl rfl ?_
 refine XV rfl rfl rfl ?_
 refine XR_if 15 rfl (fun h => ?_) (fun h => ?_)
 ·have h15 := h
  refine XV rfl rfl rfl ?_
  refine XR_a (op_geq rfl rfl) rfl rfl ?_
  refine XR_a (op_pick_t rfl rfl) rfl rfl (XA rfl rfl rfl (XR_nil ?_))
  refine X_if rfl (fun h => ?_) (fun h => ?_)
  ·refine X_seq (X_reg (XV rfl rfl rfl ?_))
   refine XR_a (op_min2 rfl rfl) rfl rfl ?_
   refine XR_as (nV (min r 138)) (congrArg (Value.int .i64) (by omega)) ?_
   refine XR_a (op_build (ps := [(0, nV 18), (1, nV (min r 138))]) (cs := #[nV 18, nV (min r 138)]) rfl rfl) rfl rfl ?_
   refine XR_wn (opl_store_whole (us := [nV 18, nV (min r 138)]) st 0 rfl rfl rfl rfl rfl (one_nV [18, _]) rfl) rfl rfl fun _ hp st => ?_
   simp only [List.set_cons_zero] at st
   refine XR_nil ?_
   refine X_ret (.cons (RV_agg rfl rfl rfl (st.cells 0 rfl)) .nil) ?_
   rw [hP, if_pos (by omega)]
   exact ⟨rfl, st.low⟩
  ·have h1 := h
   refine X_seq (X_reg (XV rfl rfl rfl (XV rfl rfl rfl ?_)))
   first | refine XR_a (op_index1 rfl rfl rfl (by omega)) rfl rfl ?_ | refine XR_a (op_index rfl rfl rfl (by omega)) rfl rfl ?_
   refine XR_a (op_ld (hcx a ha) rfl rfl rfl) rfl rfl ?_
   refine XR_a (op_eql rfl rfl) rfl rfl ?_
   refine XV rfl rfl rfl ?_
   refine XR_if 28 rfl (fun h => ?_) (fun h => ?_)
   ·have h28 := h
    refine XV rfl rfl rfl ?_
    refine XR_a (op_geq rfl rfl) rfl rfl ?_
    refine XR_a (op_pick_t rfl rfl) rfl rfl (XA rfl rfl rfl (XR_nil ?_))
    refine X_if rfl (fun h => ?_) (fun h => ?_)
    ·refine X_seq (X_reg (XV rfl rfl rfl ?_))
     refine XR_a (op_build (ps := [(0, nV 17), (1, nV r)]) (cs := #[nV 17, nV r]) rfl rfl) rfl rfl ?_
     refine XR_wn (opl_store_whole (us := [nV 17, nV r]) st 0 rfl rfl rfl rfl rfl (one_nV [17, _]) rfl) rfl rfl fun _ hp st => ?_
     simp only [List.set_cons_zero] at st
     refine XR_nil ?_
     refine X_ret (.cons (RV_agg rfl rfl rfl (st.cells 0 rfl)) .nil) ?_
     rw [hP, if_neg (by omega), if_pos (by omega)]
     exact ⟨rfl, st.low⟩
    ·have h2 := h
     refine X_seq ?_
     refine X_draw byKind (by kernel_rfl) (by kernel_rfl) ?_
     refine XV rfl rfl rfl ?_
     refine XR_a (op_gtr rfl rfl) rfl rfl ?_
     refine XV rfl rfl rfl ?_
     refine XR_if 37 rfl (fun h => ?_) (fun h => ?_)
     ·have h37 := h
      refine XV rfl rfl rfl (XV rfl rfl rfl ?_)
      first | refine XR_a (op_index1 rfl rfl rfl (by omega)) rfl rfl ?_ | refine XR_a (op_index rfl rfl rfl (by omega)) rfl rfl ?_
      refine XR_a (op_ld (hcx a ha) rfl rfl rfl) rfl rfl ?_
      refine XV rfl rfl rfl (XV rfl rfl rfl ?_)
      first | refine XR_a (op_subN (n := 1) rfl rfl (by omega) (by simp only [inK]; omega)) rfl rfl ?_ | refine XR_a (op_subI rfl rfl (by simp only [inK]; omega)) rfl rfl ?_ | refine XR_a (op_sub rfl rfl) rfl rfl ?_
      refine XR_a (op_index1 (i := a - 1) rfl rfl rfl (by omega)) rfl rfl ?_
      refine XR_a (op_ld (hcx (a - 1) (by omega)) rfl rfl rfl) rfl rfl ?_
      refine XR_a (op_eql rfl rfl) rfl rfl ?_
      refine XR_a (op_pick_t rfl rfl) rfl rfl (XV rfl rfl rfl ?_)
      refine XR_if 49 rfl (fun h => ?_) (fun h => ?_)
      ·have h49 := h
       refine XV rfl rfl rfl ?_
       refine XR_a (op_geq rfl rfl) rfl rfl ?_
       refine XR_a (op_pick_t rfl rfl) rfl rfl (XA rfl rfl rfl (XR_nil ?_))
       refine X_if rfl (fun h => ?_) (fun h => ?_)
       ·refine X_seq (X_reg (XV rfl rfl rfl ?_))
        refine XR_a (op_min2 rfl rfl) rfl rfl ?_
        refine XR_as (nV (min r 6)) (congrArg (Value.int .i64) (by omega)) ?_
        refine XR_a (op_build (ps := [(0, nV 16), (1, nV (min r 6))]) (cs := #[nV 16, nV (min r 6)]) rfl rfl) rfl rfl ?_
        refine XR_wn (opl_store_whole (us := [nV 16, nV (min r 6)]) st 0 rfl rfl rfl rfl rfl (one_nV [16, _]) rfl) rfl rfl fun _ hp st => ?_
        simp only [List.set_cons_zero] at st
        refine XR_nil ?_
        refine X_ret (.cons (RV_agg rfl rfl rfl (st.cells 0 rfl)) .nil) ?_
        rw [hP, if_neg (by omega), if_neg (by omega), if_pos (by omega)]
        exact ⟨rfl, st.low⟩
       ·have h3 := h
        refine X_skip (X_blk (X_seq (X_reg (XV rfl rfl rfl (XV rfl rfl rfl ?_)))))
        first | refine XR_a (op_index1 rfl rfl rfl (by omega)) rfl rfl ?_ | refine XR_a (op_index rfl rfl rfl (by omega)) rfl rfl ?_
        refine XR_a (op_ld (hcx a ha) rfl rfl rfl) rfl rfl ?_
        refine XR_a (op_build (ps := [(0, nV (l.getD a 0)), (1, nV 1)]) (cs := #[nV (l.getD a 0), nV 1]) rfl rfl) rfl rfl ?_
        refine XR_wn (opl_store_whole (us := [nV (l.getD a 0), nV 1]) st 0 rfl rfl rfl rfl rfl (one_nV [_, 1]) rfl) rfl rfl fun _ hp st => ?_
        simp only [List.set_cons_zero] at st
        refine XR_nil ?_
        refine X_ret (.cons (RV_agg rfl rfl rfl (st.cells 0 rfl)) .nil) ?_
        rw [hP, if_neg (by omega), if_neg (by omega), if_neg (by omega)]
        exact ⟨rfl, st.low⟩
      ·have h49 := h
       refine XR_no rfl rfl (XR_no rfl rfl (XR_a (op_pick_f rfl rfl) rfl rfl (XA rfl rfl rfl (XR_nil (X_else rfl (X_skip (X_blk (X_seq (X_reg ?_)))))))))
       refine XV rfl rfl rfl (XV rfl rfl rfl ?_)
       first | refine XR_a (op_index1 rfl rfl rfl (by omega)) rfl rfl ?_ | refine XR_a (op_index rfl rfl rfl (by omega)) rfl rfl ?_
       refine XR_a (op_ld (hcx a ha) rfl rfl rfl) rfl rfl ?_
       refine XR_a (op_build (ps := [(0, nV (l.getD a 0)), (1, nV 1)]) (cs := #[nV (l.getD a 0), nV 1]) rfl rfl) rfl rfl ?_
       refine XR_wn (opl_store_whole (us := [nV (l.getD a 0), nV 1]) st 0 rfl rfl rfl rfl rfl (one_nV [_, 1]) rfl) rfl rfl fun _ hp st => ?_
       simp only [List.set_cons_zero] at st
       refine XR_nil ?_
       refine X_ret (.cons (RV_agg rfl rfl rfl (st.cells 0 rfl)) .nil) ?_
       rw [hP, if_neg (by omega), if_neg (by omega), if_neg (by omega)]
       exact ⟨rfl, st.low⟩
     ·have h37 := h
      refine XR_no rfl rfl (XR_no rfl rfl (XR_no rfl rfl (XR_no rfl rfl (XR_no rfl rfl (XR_no rfl rfl (XR_no rfl rfl (XR_no rfl rfl (XR_no rfl rfl (XR_no rfl rfl ?_)))))))))
      refine XR_a (op_pick_f rfl rfl) rfl rfl (XV rfl rfl rfl (XR_no rfl rfl (XR_no rfl rfl (XR_a (op_pick_f rfl rfl) rfl rfl (XA rfl rfl rfl (XR_nil (X_else rfl (X_skip (X_blk ?_)))))))))
      refine X_seq (X_reg (XV rfl rfl rfl (XV rfl rfl rfl ?_)))
      first | refine XR_a (op_index1 rfl rfl rfl (by omega)) rfl rfl ?_ | refine XR_a (op_index rfl rfl rfl (by omega)) rfl rfl ?_
      refine XR_a (op_ld (hcx a ha) rfl rfl rfl) rfl rfl ?_
      refine XR_a (op_build (ps := [(0, nV (l.getD a 0)), (1, nV 1)]) (cs := #[nV (l.getD a 0), nV 1]) rfl rfl) rfl rfl ?_
      refine XR_wn (opl_store_whole (us := [nV (l.getD a 0), nV 1]) st 0 rfl rfl rfl rfl rfl (one_nV [_, 1]) rfl) rfl rfl fun _ hp st => ?_
      simp only [List.set_cons_zero] at st
      refine XR_nil ?_
      refine X_ret (.cons (RV_agg rfl rfl rfl (st.cells 0 rfl)) .nil) ?_
      rw [hP, if_neg (by omega), if_neg (by omega), if_neg (by omega)]
      exact ⟨rfl, st.low⟩
   ·have h28 := h
    refine XR_no rfl rfl (XR_no rfl rfl (XR_a (op_pick_f rfl rfl) rfl rfl (XA rfl rfl rfl (XR_nil (X_else rfl (X_seq ?_))))))
    refine X_draw byKind (by kernel_rfl) (by kernel_rfl) ?_
    refine XV rfl rfl rfl ?_
    refine XR_a (op_gtr rfl rfl) rfl rfl ?_
    refine XV rfl rfl rfl ?_
    refine XR_if 37 rfl (fun h => ?_) (fun h => ?_)
    ·have h37 := h
     refine XV rfl rfl rfl (XV rfl rfl rfl ?_)
     first | refine XR_a (op_index1 rfl rfl rfl (by omega)) rfl rfl ?_ | refine XR_a (op_index rfl rfl rfl (by omega)) rfl rfl ?_
     refine XR_a (op_ld (hcx a ha) rfl rfl rfl) rfl rfl ?_
     refine XV rfl rfl rfl (XV rfl rfl rfl ?_)
     first | refine XR_a (op_subN (n := 1) rfl rfl (by omega) (by simp only [inK]; omega)) rfl rfl ?_ | refine XR_a (op_subI rfl rfl (by simp only [inK]; omega)) rfl rfl ?_ | refine XR_a (op_sub rfl rfl) rfl rfl ?_
     refine XR_a (op_index1 (i := a - 1) rfl rfl rfl (by omega)) rfl rfl ?_
     refine XR_a (op_ld (hcx (a - 1) (by omega)) rfl rfl rfl) rfl rfl ?_
     refine XR_a (op_eql rfl rfl) rfl rfl ?_
     refine XR_a (op_pick_t rfl rfl) rfl rfl (XV rfl rfl rfl ?_)
     refine XR_if 49 rfl (fun h => ?_) (fun h => ?_)
     ·have h49 := h
      refine XV rfl rfl rfl ?_
      refine XR_a (op_geq rfl rfl) rfl rfl ?_
      refine XR_a (op_pick_t rfl rfl) rfl rfl (XA rfl rfl rfl (XR_nil ?_))
      refine X_if rfl (fun h => ?_) (fun h => ?_)
      ·refine X_seq (X_reg (XV rfl rfl rfl ?_))
       refine XR_a (op_min2 rfl rfl) rfl rfl ?_
       refine XR_as (nV (min r 6)) (congrArg (Value.int .i64) (by omega)) ?_
       refine XR_a (op_build (ps := [(0, nV 16), (1, nV (min r 6))]) (cs := #[nV 16, nV (min r 6)]) rfl rfl) rfl rfl ?_
       refine XR_wn (opl_store_whole (us := [nV 16, nV (min r 6)]) st 0 rfl rfl rfl rfl rfl (one_nV [16, _]) rfl) rfl rfl fun _ hp st => ?_
       simp only [List.set_cons_zero] at st
       refine XR_nil ?_
       refine X_ret (.cons (RV_agg rfl rfl rfl (st.cells 0 rfl)) .nil) ?_
       rw [hP, if_neg (by omega), if_neg (by omega), if_pos (by omega)]
       exact ⟨rfl, st.low⟩
      ·have h3 := h
       refine X_skip (X_blk (X_seq (X_reg (XV rfl rfl rfl (XV rfl rfl rfl ?_)))))
       first | refine XR_a (op_index1 rfl rfl rfl (by omega)) rfl rfl ?_ | refine XR_a (op_index rfl rfl rfl (by omega)) rfl rfl ?_
       refine XR_a (op_ld (hcx a ha) rfl rfl rfl) rfl rfl ?_
       refine XR_a (op_build (ps := [(0, nV (l.getD a 0)), (1, nV 1)]) (cs := #[nV (l.getD a 0), nV 1]) rfl rfl) rfl rfl ?_
       refine XR_wn (opl_store_whole (us := [nV (l.getD a 0), nV 1]) st 0 rfl rfl rfl rfl rfl (one_nV [_, 1]) rfl) rfl rfl fun _ hp st => ?_
       simp only [List.set_cons_zero] at st
       refine XR_nil ?_
       refine X_ret (.cons (RV_agg rfl rfl rfl (st.cells 0 rfl)) .nil) ?_
       rw [hP, if_neg (by omega), if_neg (by omega), if_neg (by omega)]
       exact ⟨rfl, st.low⟩
     ·have h49 := h
      refine XR_no rfl rfl (XR_no rfl rfl (XR_a (op_pick_f rfl rfl) rfl rfl (XA rfl rfl rfl (XR_nil (X_else rfl (X_skip (X_blk (X_seq (X_reg ?_)))))))))
      refine XV rfl rfl rfl (XV rfl rfl rfl ?_)
      first | refine XR_a (op_index1 rfl rfl rfl (by omega)) rfl rfl ?_ | refine XR_a (op_index rfl rfl rfl (by omega)) rfl rfl ?_
      refine XR_a (op_ld (hcx a ha) rfl rfl rfl) rfl rfl ?_
      refine XR_a (op_build (ps := [(0, nV (l.getD a 0)), (1, nV 1)]) (cs := #[nV (l.getD a 0), nV 1]) rfl rfl) rfl rfl ?_
      refine XR_wn (opl_store_whole (us := [nV (l.getD a 0), nV 1]) st 0 rfl rfl rfl rfl rfl (one_nV [_, 1]) rfl) rfl rfl fun _ hp st => ?_
      simp only [List.set_cons_zero] at st
      refine XR_nil ?_
      refine X_ret (.cons (RV_agg rfl rfl rfl (st.cells 0 rfl)) .nil) ?_
      rw [hP, if_neg (by omega), if_neg (by omega), if_neg (by omega)]
      exact ⟨rfl, st.low⟩
    ·have h37 := h
     refine XR_no rfl rfl (XR_no rfl rfl (XR_no rfl rfl (XR_no rfl rfl (XR_no rfl rfl (XR_no rfl rfl (XR_no rfl rfl (XR_no rfl rfl (XR_no rfl rfl (XR_no rfl rfl ?_)))))))))
     refine XR_a (op_pick_f rfl rfl) rfl rfl (XV rfl rfl rfl (XR_no rfl rfl (XR_no rfl rfl (XR_a (op_pick_f rfl rfl) rfl rfl (XA rfl rfl rfl (XR_nil (X_else rfl (X_skip (X_blk ?_)))))))))
     refine X_seq (X_reg (XV rfl rfl rfl (XV rfl rfl rfl ?_)))
     first | refine XR_a (op_index1 rfl rfl rfl (by omega)) rfl rfl ?_ | refine XR_a (op_index rfl rfl rfl (by omega)) rfl rfl ?_
     refine XR_a (op_ld (hcx a ha) rfl rfl rfl) rfl rfl ?_
     refine XR_a (op_build (ps := [(0, nV (l.getD a 0)), (1, nV 1)]) (cs := #[nV (l.getD a 0), nV 1]) rfl rfl) rfl rfl ?_
     refine XR_wn (opl_store_whole (us := [nV (l.getD a 0), nV 1]) st 0 rfl rfl rfl rfl rfl (one_nV [_, 1]) rfl) rfl rfl fun _ hp st => ?_
     simp only [List.set_cons_zero] at st
     refine XR_nil ?_
     refine X_ret (.cons (RV_agg rfl rfl rfl (st.cells 0 rfl)) .nil) ?_
     rw [hP, if_neg (by omega), if_neg (by omega), if_neg (by omega)]
     exact ⟨rfl, st.low⟩
 ·have h15 := h
  refine XR_no rfl rfl (XR_no rfl rfl (XR_a (op_pick_f rfl rfl) rfl rfl (XA rfl rfl rfl (XR_nil (X_else rfl (X_seq (X_reg (XV rfl rfl rfl (XV rfl rfl rfl ?_)))))))))
  first | refine XR_a (op_index1 rfl rfl rfl (by omega)) rfl rfl ?_ | refine XR_a (op_index rfl rfl rfl (by omega)) rfl rfl ?_
  refine XR_a (op_ld (hcx a ha) rfl rfl rfl) rfl rfl ?_
  refine XR_a (op_eql rfl rfl) rfl rfl ?_
  refine XV rfl rfl rfl ?_
  refine XR_if 28 rfl (fun h => ?_) (fun h => ?_)
  ·have h28 := h
   refine XV rfl rfl rfl ?_
   refine XR_a (op_geq rfl rfl) rfl rfl ?_
   refine XR_a (op_pick_t rfl rfl) rfl rfl (XA rfl rfl rfl (XR_nil ?_))
   refine X_if rfl (fun h => ?_) (fun h => ?_)
   ·refine X_seq (X_reg (XV rfl rfl rfl ?_))
    refine XR_a (op_build (ps := [(0, nV 17), (1, nV r)]) (cs := #[nV 17, nV r]) rfl rfl) rfl rfl ?_
    refine XR_wn (opl_store_whole (us := [nV 17, nV r]) st 0 rfl rfl rfl rfl rfl (one_nV [17, _]) rfl) rfl rfl fun _ hp st => ?_
    simp only [List.set_cons_zero] at st
    refine XR_nil ?_
    refine X_ret (.cons (RV_agg rfl rfl rfl (st.cells 0 rfl)) .nil) ?_
    rw [hP, if_neg (by omega), if_pos (by omega)]
    exact ⟨rfl, st.low⟩
   ·have h2 := h
    refine X_seq ?_
    refine X_draw byKind (by kernel_rfl) (by kernel_rfl) ?_
    refine XV rfl rfl rfl ?_
    refine XR_a (op_gtr rfl rfl) rfl rfl ?_
    refine XV rfl rfl rfl ?_
    refine XR_if 37 rfl (fun h => ?_) (fun h => ?_)
    ·have h37 := h
     refine XV rfl rfl rfl (XV rfl rfl rfl ?_)
     first | refine XR_a (op_index1 rfl rfl rfl (by omega)) rfl rfl ?_ | refine XR_a (op_index rfl rfl rfl (by omega)) rfl rfl ?_
     refine XR_a (op_ld (hcx a ha) rfl rfl rfl) rfl rfl ?_
     refine XV rfl rfl rfl (XV rfl rfl rfl ?_)
     first | refine XR_a (op_subN (n := 1) rfl rfl (by omega) (by simp only [inK]; omega)) rfl rfl ?_ | refine XR_a (op_subI rfl rfl (by simp only [inK]; omega)) rfl rfl ?_ | refine XR_a (op_sub rfl rfl) rfl rfl ?_
     refine XR_a (op_index1 (i := a - 1) rfl rfl rfl (by omega)) rfl rfl ?_
     refine XR_a (op_ld (hcx (a - 1) (by omega)) rfl rfl rfl) rfl rfl ?_
     refine XR_a (op_eql rfl rfl) rfl rfl ?_
     refine XR_a (op_pick_t rfl rfl) rfl rfl (XV rfl rfl rfl ?_)
     refine XR_if 49 rfl (fun h => ?_) (fun h => ?_)
     ·have h49 := h
      refine XV rfl rfl rfl ?_
      refine XR_a (op_geq rfl rfl) rfl rfl ?_
      refine XR_a (op_pick_t rfl rfl) rfl rfl (XA rfl rfl rfl (XR_nil ?_))
      refine X_if rfl (fun h => ?_) (fun h => ?_)
      ·refine X_seq (X_reg (XV rfl rfl rfl ?_))
       refine XR_a (op_min2 rfl rfl) rfl rfl ?_
       refine XR_as (nV (min r 6)) (congrArg (Value.int .i64) (by omega)) ?_
       refine XR_a (op_build (ps := [(0, nV 16), (1, nV (min r 6))]) (cs := #[nV 16, nV (min r 6)]) rfl rfl) rfl rfl ?_
       refine XR_wn (opl_store_whole (us := [nV 16, nV (min r 6)]) st 0 rfl rfl rfl rfl rfl (one_nV [16, _]) rfl) rfl rfl fun _ hp st => ?_
       simp only [List.set_cons_zero] at st
       refine XR_nil ?_
       refine X_ret (.cons (RV_agg rfl rfl rfl (st.cells 0 rfl)) .nil) ?_
       rw [hP, if_neg (by omega), if_neg (by omega), if_pos (by omega)]
       exact ⟨rfl, st.low⟩
      ·have h3 := h
       refine X_skip (X_blk (X_seq (X_reg (XV rfl rfl rfl (XV rfl rfl rfl ?_)))))
       first | refine XR_a (op_index1 rfl rfl rfl (by omega)) rfl rfl ?_ | refine XR_a (op_index rfl rfl rfl (by omega)) rfl rfl ?_
       refine XR_a (op_ld (hcx a ha) rfl rfl rfl) rfl rfl ?_
       refine XR_a (op_build (ps := [(0, nV (l.getD a 0)), (1, nV 1)]) (cs := #[nV (l.getD a 0), nV 1]) rfl rfl) rfl rfl ?_
       refine XR_wn (opl_store_whole (us := [nV (l.getD a 0), nV 1]) st 0 rfl rfl rfl rfl rfl (one_nV [_, 1]) rfl) rfl rfl fun _ hp st => ?_
       simp only [List.set_cons_zero] at st
       refine XR_nil ?_
       refine X_ret (.cons (RV_agg rfl rfl rfl (st.cells 0 rfl)) .nil) ?_
       rw [hP, if_neg (by omega), if_neg (by omega), if_neg (by omega)]
       exact ⟨rfl, st.low⟩
     ·have h49 := h
      refine XR_no rfl rfl (XR_no rfl rfl (XR_a (op_pick_f rfl rfl) rfl rfl (XA rfl rfl rfl (XR_nil (X_else rfl (X_skip (X_blk (X_seq (X_reg ?_)))))))))
      refine XV rfl rfl rfl (XV rfl rfl rfl ?_)
      first | refine XR_a (op_index1 rfl rfl rfl (by omega)) rfl rfl ?_ | refine XR_a (op_index rfl rfl rfl (by omega)) rfl rfl ?_
      refine XR_a (op_ld (hcx a ha) rfl rfl rfl) rfl rfl ?_
      refine XR_a (op_build (ps := [(0, nV (l.getD a 0)), (1, nV 1)]) (cs := #[nV (l.getD a 0), nV 1]) rfl rfl) rfl rfl ?_
      refine XR_wn (opl_store_whole (us := [nV (l.getD a 0), nV 1]) st 0 rfl rfl rfl rfl rfl (one_nV [_, 1]) rfl) rfl rfl fun _ hp st => ?_
      simp only [List.set_cons_zero] at st
      refine XR_nil ?_
      refine X_ret (.cons (RV_agg rfl rfl rfl (st.cells 0 rfl)) .nil) ?_
      rw [hP, if_neg (by omega), if_neg (by omega), if_neg (by omega)]
      exact ⟨rfl, st.low⟩
    ·have h37 := h
     refine XR_no rfl rfl (XR_no rfl rfl (XR_no rfl rfl (XR_no rfl rfl (XR_no rfl rfl (XR_no rfl rfl (XR_no rfl rfl (XR_no rfl rfl (XR_no rfl rfl (XR_no rfl rfl ?_)))))))))
     refine XR_a (op_pick_f rfl rfl) rfl rfl (XV rfl rfl rfl (XR_no rfl rfl (XR_no rfl rfl (XR_a (op_pick_f rfl rfl) rfl rfl (XA rfl rfl rfl (XR_nil (X_else rfl (X_skip (X_blk ?_)))))))))
     refine X_seq (X_reg (XV rfl rfl rfl (XV rfl rfl rfl ?_)))
     first | refine XR_a (op_index1 rfl rfl rfl (by omega)) rfl rfl ?_ | refine XR_a (op_index rfl rfl rfl (by omega)) rfl rfl ?_
     refine XR_a (op_ld (hcx a ha) rfl rfl rfl) rfl rfl ?_
     refine XR_a (op_build (ps := [(0, nV (l.getD a 0)), (1, nV 1)]) (cs := #[nV (l.getD a 0), nV 1]) rfl rfl) rfl rfl ?_
     refine XR_wn (opl_store_whole (us := [nV (l.getD a 0), nV 1]) st 0 rfl rfl rfl rfl rfl (one_nV [_, 1]) rfl) rfl rfl fun _ hp st => ?_
     simp only [List.set_cons_zero] at st
     refine XR_nil ?_
     refine X_ret (.cons (RV_agg rfl rfl rfl (st.cells 0 rfl)) .nil) ?_
     rw [hP, if_neg (by omega), if_neg (by omega), if_neg (by omega)]
     exact ⟨rfl, st.low⟩
  ·have h28 := h
   refine XR_no rfl rfl (XR_no rfl rfl (XR_a (op_pick_f rfl rfl) rfl rfl (XA rfl rfl rfl (XR_nil (X_else rfl (X_seq ?_))))))
   refine X_draw byKind (by kernel_rfl) (by kernel_rfl) ?_
   refine XV rfl rfl rfl ?_
   refine XR_a (op_gtr rfl rfl) rfl rfl ?_
   refine XV rfl rfl rfl ?_
   refine XR_if 37 rfl (fun h => ?_) (fun h => ?_)
   ·have h37 := h
    refine XV rfl rfl rfl (XV rfl rfl rfl ?_)
    first | refine XR_a (op_index1 rfl rfl rfl (by omega)) rfl rfl ?_ | refine XR_a (op_index rfl rfl rfl (by omega)) rfl rfl ?_
    refine XR_a (op_ld (hcx a ha) rfl rfl rfl) rfl rfl ?_
    refine XV rfl rfl rfl (XV rfl rfl rfl ?_)
    first | refine XR_a (op_subN (n := 1) rfl rfl (by omega) (by simp only [inK]; omega)) rfl rfl ?_ | refine XR_a (op_subI rfl rfl (by simp only [inK]; omega)) rfl rfl ?_ | refine XR_a (op_sub rfl rfl) rfl rfl ?_
    refine XR_a (op_index1 (i := a - 1) rfl rfl rfl (by omega)) rfl rfl ?_
    refine XR_a (op_ld (hcx (a - 1) (by omega)) rfl rfl rfl) rfl rfl ?_
    refine XR_a (op_eql rfl rfl) rfl rfl ?_
    refine XR_a (op_pick_t rfl rfl) rfl rfl (XV rfl rfl rfl ?_)
    refine XR_if 49 rfl (fun h => ?_) (fun h => ?_)
    ·have h49 := h
     refine XV rfl rfl rfl ?_
     refine XR_a (op_geq rfl rfl) rfl rfl ?_
     refine XR_a (op_pick_t rfl rfl) rfl rfl (XA rfl rfl rfl (XR_nil ?_))
     refine X_if rfl (fun h => ?_) (fun h => ?_)
     ·refine X_seq (X_reg (XV rfl rfl rfl ?_))
      refine XR_a (op_min2 rfl rfl) rfl rfl ?_
      refine XR_as (nV (min r 6)) (congrArg (Value.int .i64) (by omega)) ?_
      refine XR_a (op_build (ps := [(0, nV 16), (1, nV (min r 6))]) (cs := #[nV 16, nV (min r 6)]) rfl rfl) rfl rfl ?_
      refine XR_wn (opl_store_whole (us := [nV 16, nV (min r 6)]) st 0 rfl rfl rfl rfl rfl (one_nV [16, _]) rfl) rfl rfl fun _ hp st => ?_
      simp only [List.set_cons_zero] at st
      refine XR_nil ?_
      refine X_ret (.cons (RV_agg rfl rfl rfl (st.cells 0 rfl)) .nil) ?_
      rw [hP, if_neg (by omega), if_neg (by omega), if_pos (by omega)]
      exact ⟨rfl, st.low⟩
     ·have h3 := h
      refine X_skip (X_blk (X_seq (X_reg (XV rfl rfl rfl (XV rfl rfl rfl ?_)))))
      first | refine XR_a (op_index1 rfl rfl rfl (by omega)) rfl rfl ?_ | refine XR_a (op_index rfl rfl rfl (by omega)) rfl rfl ?_
      refine XR_a (op_ld (hcx a ha) rfl rfl rfl) rfl rfl ?_
      refine XR_a (op_build (ps := [(0, nV (l.getD a 0)), (1, nV 1)]) (cs := #[nV (l.getD a 0), nV 1]) rfl rfl) rfl rfl ?_
      refine XR_wn (opl_store_whole (us := [nV (l.getD a 0), nV 1]) st 0 rfl rfl rfl rfl rfl (one_nV [_, 1]) rfl) rfl rfl fun _ hp st => ?_
      simp only [List.set_cons_zero] at st
      refine XR_nil ?_
      refine X_ret (.cons (RV_agg rfl rfl rfl (st.cells 0 rfl)) .nil) ?_
      rw [hP, if_neg (by omega), if_neg (by omega), if_neg (by omega)]
      exact ⟨rfl, st.low⟩
    ·have h49 := h
     refine XR_no rfl rfl (XR_no rfl rfl (XR_a (op_pick_f rfl rfl) rfl rfl (XA rfl rfl rfl (XR_nil (X_else rfl (X_skip (X_blk (X_seq (X_reg ?_)))))))))
     refine XV rfl rfl rfl (XV rfl rfl rfl ?_)
     first | refine XR_a (op_index1 rfl rfl rfl (by omega)) rfl rfl ?_ | refine XR_a (op_index rfl rfl rfl (by omega)) rfl rfl ?_
     refine XR_a (op_ld (hcx a ha) rfl rfl rfl) rfl rfl ?_
     refine XR_a (op_build (ps := [(0, nV (l.getD a 0)), (1, nV 1)]) (cs := #[nV (l.getD a 0), nV 1]) rfl rfl) rfl rfl ?_
     refine XR_wn (opl_store_whole (us := [nV (l.getD a 0), nV 1]) st 0 rfl rfl rfl rfl rfl (one_nV [_, 1]) rfl) rfl rfl fun _ hp st => ?_
     simp only [List.set_cons_zero] at st
     refine XR_nil ?_
     refine X_ret (.cons (RV_agg rfl rfl rfl (st.cells 0 rfl)) .nil) ?_
     rw [hP, if_neg (by omega), if_neg (by omega), if_neg (by omega)]
     exact ⟨rfl, st.low⟩
   ·have h37 := h
    refine XR_no rfl rfl (XR_no rfl rfl (XR_no rfl rfl (XR_no rfl rfl (XR_no rfl rfl (XR_no rfl rfl (XR_no rfl rfl (XR_no rfl rfl (XR_no rfl rfl (XR_no rfl rfl ?_)))))))))
    refine XR_a (op_pick_f rfl rfl) rfl rfl (XV rfl rfl rfl (XR_no rfl rfl (XR_no rfl rfl (XR_a (op_pick_f rfl rfl) rfl rfl (XA rfl rfl rfl (XR_nil (X_else rfl (X_skip (X_blk ?_)))))))))
    refine X_seq (X_reg (XV rfl rfl rfl (XV rfl rfl rfl ?_)))
    first | refine XR_a (op_index1 rfl rfl rfl (by omega)) rfl rfl ?_ | refine XR_a (op_index rfl rfl rfl (by omega)) rfl rfl ?_
    refine XR_a (op_ld (hcx a ha) rfl rfl rfl) rfl rfl ?_
    refine XR_a (op_build (ps := [(0, nV (l.getD a 0)), (1, nV 1)]) (cs := #[nV (l.getD a 0), nV 1]) rfl rfl) rfl rfl ?_
    refine XR_wn (opl_store_whole (us := [nV (l.getD a 0), nV 1]) st 0 rfl rfl rfl rfl rfl (one_nV [_, 1]) rfl) rfl rfl fun _ hp st => ?_
    simp only [List.set_cons_zero] at st
    refine XR_nil ?_
    refine X_ret (.cons (RV_agg rfl rfl rfl (st.cells 0 rfl)) .nil) ?_
    rw [hP, if_neg (by omega), if_neg (by omega), if_neg (by omega)]
    exact ⟨rfl, st.low⟩
theorem rparts_spec {n c : Nat} {A : Option Addr} {h0 : Heap} : Ret Try.prog 88 [.slice A n c] h0 fun v h' => ∃ p, v = .func (.func 118) #[] #[.pointer (some ⟨p, 0, none⟩)] ∧ St h0.size h0 h' [pt p 72 [.slice A n c]] := by
 refine ret_of_X Try.func88 rfl rfl fun w0 hw0 => ?_
 simp only [argE, Nat.zero_add, Nat.reduceAdd]
 have st := St.start h0
 refine X_seq (X_reg ?_)
 refine XR_wa (opl_bx rfl rfl) rfl rfl rfl ?_
 rintro _ hp ⟨p, rfl, hnew⟩
 replace st := st.new hnew
 refine XA rfl rfl rfl (XR_nil (X_seq (X_reg ?_)))
 refine XR_a (op_mkFunc rfl) rfl rfl ?_
 refine XA rfl rfl rfl (XR_nil ?_)
 refine X_ret (.cons (.tmp rfl) .nil) ?_
 exact ⟨_, rfl, st⟩
theorem parts_iter {B y p n c : Nat} {A : Option Addr} {l : List Nat} {F : List Res} {h0 : Heap} (JR : List (Nat × Nat) → List Res) (st0 : St B h0 h0 (pt p 72 [.slice A n c] :: (JR [] ++ F)))
  (hr : ∀ h' rs, St B h0 h' (rs ++ F) → Rd h' A (l.map nV)) (hl : l.length = n) (hn : n ≤ 1048576)
  (hround : ∀ (s : List (Nat × Nat)) (x : Nat × Nat) (r : List (Nat × Nat)) (F' : List Res) (h : Heap), Low B h0 h → s ++ x :: r = partsL l 0 → St B h h (JR s ++ F') → RRet Try.prog y [.agg (pC2 x).toArray] h fun u h' => u = .bool true ∧ St B h h' (JR (s ++ [x]) ++ F')) :
  Ret Try.prog 118 [.func (.yield y) #[] #[], .pointer (some ⟨p, 0, none⟩)] h0 fun _ h' => St B h0 h' (JR (partsL l 0) ++ F) := by
 refine ret_of_X Try.func118 rfl rfl fun w0 hw0 => ?_
 simp only [argE, Nat.zero_add, Nat.reduceAdd]
 refine X_seq (X_reg (XA rfl rfl rfl (XR_nil (X_block ?_))))
 refine X_loop (fun s => n - s.1) (fun s => [(0, .func (.yield y) #[] #[]), (1, .pointer (some ⟨p, 0, none⟩)), (3, nV s.1)])
  (fun (s : Nat × List (Nat × Nat)) hp => s.1 ≤ n ∧ s.2 ++ partsL l s.1 = partsL l 0 ∧ St B h0 hp (pt p 72 [.slice A n c] :: (JR s.2 ++ F)))
  (0, []) (.cons rfl (.cons rfl (.cons rfl (.nil _)))) ⟨Nat.zero_le _, rfl, st0⟩ ?_
 rintro ⟨a, s⟩ hp ⟨ha, hs, st⟩
 simp only at ha hs st ⊢
 refine X_seq (X_seq (X_reg (XV rfl rfl rfl ?_)))
 refine XR_a (op_ld (st.cell 0 (i := 0) rfl rfl) rfl rfl rfl) rfl rfl ?_
 refine XR_a (op_len rfl rfl rfl) rfl rfl ?_
 refine XR_a (op_lss rfl rfl) rfl rfl ?_
 refine XR_nil ?_
 refine X_if rfl (fun h => ?_) (fun h => ?_)
 ·have hpm := partAt_many (l := l) (at_ := a) (by omega)
  have hrl := runAt_le l a
  rw [partsL_cons (by omega)] at hs
  refine X_skip (X_block (X_seq (X_reg ?_)))
  refine XR_a (op_ld (st.cell 0 (i := 0) rfl rfl) rfl rfl rfl) rfl rfl ?_
  refine XV rfl rfl rfl ?_
  refine XR_wa (opl_call (rpart_spec (hr hp (pt p 72 [.slice A n c] :: JR s) st) hl (by omega) (by omega)) rfl (by kernel_rfl)) rfl rfl rfl ?_
  rintro _ hp2 ⟨rfl, hx2⟩
  replace st := st.ext hx2
  obtain ⟨x, hx⟩ : ∃ x, partAt l a = x := ⟨_, rfl⟩
  rw [hx] at hs hpm ⊢
  refine XR_wa (opl_new rfl) rfl rfl rfl ?_
  rintro _ hp ⟨p4, rfl, hnew⟩
  replace st := st.new hnew
  refine XR_wn (opl_store_whole (us := pC2 x) st 0 rfl rfl rfl rfl rfl (one_pC2 x) rfl) rfl rfl fun _ hp st => ?_
  simp only [List.set_cons_zero] at st
  have st3 := st.perm (List.perm_append_comm_assoc [pt p4 168 (pC2 x), pt p 72 [.slice A n c]] (JR s) F)
  refine XR_nil (X_seq (X_seq (X_reg (XV rfl rfl rfl ?_))))
  refine XR_a (op_ldA (vs := pC2 x) (st.cells 0 rfl) rfl rfl rfl rfl) rfl rfl ?_
  refine XR_ya (opy_yield rfl (hround s x _ _ _ st3.low hs st3.here) rfl) rfl rfl rfl ?_
  rintro _ hp3 ⟨rfl, st4⟩
  replace st := (st3.trans st4).perm (List.perm_append_comm_assoc (JR (s ++ [x])) [pt p4 168 (pC2 x), pt p 72 [.slice A n c]] F)
  first | refine XR_a (op_notd rfl) rfl rfl ?_ | refine XR_a (op_not rfl) rfl rfl ?_
  refine XR_nil (X_else rfl (X_skip (X_reg (XV rfl rfl rfl ?_))))
  first | refine XR_a (op_field0 rfl rfl) rfl rfl ?_ | refine XR_a (op_fieldn rfl rfl) rfl rfl ?_
  refine XR_a (op_ld (st.cell 0 (i := 1) rfl rfl) rfl rfl rfl) rfl rfl ?_
  first | refine XR_a (op_addN rfl rfl (by simp only [inK]; omega)) rfl rfl ?_ | refine XR_a (op_addI rfl rfl (by simp only [inK]; omega)) rfl rfl ?_ | refine XR_a (op_add rfl rfl) rfl rfl ?_
  refine XA rfl rfl rfl (XR_nil (X_blk ?_))
  exact X_again (a + x.2, s ++ [x]) (.cons rfl (.cons rfl (.cons rfl (.nil _)))) ⟨by simp only; omega, by simp only; rw [List.append_assoc]; exact hs, st.tail⟩ (by simp only; omega)
 ·refine X_exit rfl ?_
  refine X_end .nil ?_
  rw [partsL_end (by omega), List.append_nil] at hs
  rw [← hs]
  exact st.tail
theorem right1_runs (x : Int) (h0 : Heap) : Ret Try.prog 117 [.int .i64 x] h0 fun v h' => v = .bool (decide (x < 0 ∨ 15 < x)) ∧ h0 = h' := by
 refine ret_of_X Try.func117 rfl rfl fun w0 hw0 => ?_
 simp only [argE, Nat.zero_add, Nat.reduceAdd]
 refine X_seq (X_reg (XA rfl rfl rfl (XR_nil (X_seq (X_reg (XV rfl rfl rfl ?_))))))
 refine XR_a (op_lss rfl rfl) rfl rfl ?_
 refine XV rfl rfl rfl ?_
 refine XR_if 5 rfl (fun h => ?_) (fun h => ?_)
 ·refine XR_no rfl rfl (XR_no rfl rfl (XR_a (op_pick_t rfl rfl) rfl rfl (XA rfl rfl rfl (XR_nil ?_))))
  refine X_ret (.cons (.tmp rfl) .nil) ?_
  first
   | exact ⟨congrArg Value.bool (decide_eq_true (by omega)).symm, rfl⟩
   | exact ⟨congrArg Value.bool (decide_eq_decide.2 ⟨fun hh => by omega, fun hh => by omega⟩), rfl⟩
 ·refine XV rfl rfl rfl ?_
  refine XR_a (op_gtr rfl rfl) rfl rfl ?_
  refine XR_a (op_pick_f rfl rfl) rfl rfl (XA rfl rfl rfl (XR_nil ?_))
  refine X_ret (.cons (.tmp rfl) .nil) ?_
  first
   | exact ⟨congrArg Value.bool (decide_eq_true (by omega)).symm, rfl⟩
   | exact ⟨congrArg Value.bool (decide_eq_decide.2 ⟨fun hh => by omega, fun hh => by omega⟩), rfl⟩
theorem rright_spec {n c : Nat} {A : Option Addr} {li : List Int} {h0 : Heap} (hr : Rd h0 A (li.map iV)) (hl : li.length = n) (hn : n ≤ 17592186044416) :
  Ret Try.prog 87 [.slice A n c] h0 fun v h' => v = .bool (decide (∀ x ∈ li, 0 ≤ x ∧ x ≤ 15)) ∧ h0 = h' := by
 refine ret_of_X Try.func87 rfl rfl fun w0 hw0 => ?_
 simp only [argE, Nat.zero_add, Nat.reduceAdd]
 refine X_seq (X_reg (XA rfl rfl rfl (XR_nil (X_seq (X_reg (XV rfl rfl rfl ?_))))))
 refine XR_wa (opl_call (containsFunc_spec (q := fun x => decide (x < 0 ∨ 15 < x)) (by kernel_rfl) hr hl hn (fun x _ => right1_runs x _)) rfl (by kernel_rfl)) rfl rfl rfl ?_
 rintro _ _ ⟨rfl, rfl⟩
 refine XR_a (op_not rfl) rfl rfl ?_
 rw [any_out]
 refine XA rfl rfl rfl (XR_nil ?_)
 refine X_ret (.cons (.tmp rfl) .nil) ?_
 exact ⟨rfl, rfl⟩
theorem partsF_len (l : List Nat) : ∀ f a, (partsF l f a).length ≤ f
 | 0, _ => Nat.le_refl _
 | f + 1, a => by
  rw [partsF]
  split
  ·have := partsF_len l f (a + (partAt l a).2)
   simp; omega
  ·simp
theorem partsL_len (l : List Nat) : (partsL l 0).length ≤ l.length := by
 have := partsF_len l (l.length - 0) 0
 unfold partsL; omega
end Go.Bn
end

section
set_option linter.unusedVariables false
set_option linter.unusedSimpArgs false
namespace Go.Bn
def pcnt (s : List (Nat × Nat)) : List Nat := (List.range 19).map fun k => (s.map (·.1)).count k
theorem pcnt_len (s : List (Nat × Nat)) : (pcnt s).length = 19 := by simp [pcnt]
theorem pcnt_nil : pcnt [] = List.replicate 19 0 := by decide
theorem pcnt_get {s : List (Nat × Nat)} {x : Nat} (hx : x < 19) : (pcnt s)[x]? = some ((s.map (·.1)).count x) := by unfold pcnt; simp [hx]
theorem pcnt_set {s : List (Nat × Nat)} (x : Nat × Nat) : (pcnt s).set x.1 ((s.map (·.1)).count x.1 + 1) = pcnt (s ++ [x]) := by
 refine List.ext_getElem (by simp [pcnt]) fun i h1 h2 => ?_
 rw [List.getElem_set]
 by_cases h : x.1 = i
 ·rw [if_pos h]
  simp only [pcnt, List.getElem_map, List.getElem_range]
  rw [List.map_append, List.count_append, h]; simp [h]
 ·rw [if_neg h]
  simp only [pcnt, List.getElem_map, List.getElem_range]
  rw [List.map_append, List.count_append]
  have : ([x].map (·.1)).count i = 0 := by
   simp only [List.map_cons, List.map_nil]
   rw [List.count_singleton, beq_eq_false_iff_ne.2 h]; rfl
  rw [this, Nat.add_zero]
theorem pcnt_le (s : List (Nat × Nat)) : ∀ y ∈ pcnt s, y ≤ s.length := by
 intro y hy
 obtain ⟨k, _, rfl⟩ := List.mem_map.1 hy
 have := List.count_le_length (a := k) (l := s.map (·.1))
 rwa [List.length_map] at this
theorem partsF_mem {l : List Nat} (hb : ∀ x ∈ l, x ≤ 15) : ∀ f a, ∀ x ∈ partsF l f a, x.1 < 19 ∧ rL x.1 ≤ x.2 ∧ x.2 ≤ rH x.1
 | 0, _, x, h => by simp [partsF] at h
 | f + 1, a, x, h => by
  rw [partsF] at h
  split at h
  ·rename_i ha
   rcases List.mem_cons.1 h with rfl | h
   ·have := partAt_fits hb ha; exact ⟨this.1, this.2.1, this.2.2.1⟩
   ·exact partsF_mem hb f _ x h
  ·simp at h
theorem partsL_mem {l : List Nat} (hb : ∀ x ∈ l, x ≤ 15) : ∀ x ∈ partsL l 0, x.1 < 19 ∧ rL x.1 ≤ x.2 ∧ x.2 ≤ rH x.1 := partsF_mem hb _ _
noncomputable def plens (l : List Nat) : List Nat := lensW (pcnt (partsL l 0))
theorem plens_len (l : List Nat) : (plens l).length = 19 := by unfold plens; rw [lensW_length, pcnt_len]
theorem plens_pos {l : List Nat} (hb : ∀ x ∈ l, x ≤ 15) {x : Nat × Nat} (hx : x ∈ partsL l 0) : (plens l).getD x.1 0 ≠ 0 := by
 have h19 := (partsL_mem hb x hx).1
 have hc : 0 < ((partsL l 0).map (·.1)).count x.1 := List.count_pos_iff.2 (List.mem_map_of_mem hx)
 have hw : wkey (pcnt (partsL l 0)) x.1 = ((partsL l 0).map (·.1)).count x.1 := by unfold wkey; rw [List.getD, pcnt_get h19]; rfl
 have hm : x.1 ∈ syms (pcnt (partsL l 0)) := mem_syms.2 ⟨by rw [pcnt_len]; exact h19, by rw [hw]; exact hc⟩
 unfold plens
 rw [lensW_get (by rw [pcnt_len]; exact h19)]
 have := lenW_pos (ws := pcnt (partsL l 0)) (by rw [pcnt_len]; decide) hm
 omega
theorem plens_ok {l : List Nat} (hb : ∀ x ∈ l, x ≤ 15) (h1 : 1 ≤ l.length) : lensOK (plens l) := by
 have hx : partAt l 0 ∈ partsL l 0 := by rw [partsL_cons (by omega)]; exact List.mem_cons_self
 have hs : 1 ≤ (syms (pcnt (partsL l 0))).length := by
  have h19 := (partsL_mem hb _ hx).1
  have hc : 0 < ((partsL l 0).map (·.1)).count (partAt l 0).1 := List.count_pos_iff.2 (List.mem_map_of_mem hx)
  have hw : wkey (pcnt (partsL l 0)) (partAt l 0).1 = ((partsL l 0).map (·.1)).count (partAt l 0).1 := by unfold wkey; rw [List.getD, pcnt_get h19]; rfl
  exact List.length_pos_of_mem (mem_syms.2 ⟨by rw [pcnt_len]; exact h19, by rw [hw]; exact hc⟩)
 refine ⟨by rw [plens_len]; decide, by rw [plens_len]; decide, lensW_le _, ?_⟩
 rcases Nat.lt_or_ge 1 (syms (pcnt (partsL l 0))).length with h | h
 ·exact .inl (lensW_kraft h (by rw [pcnt_len]; decide))
 ·exact .inr (lensW_one (by omega) (by rw [pcnt_len]; decide))
def partBits (lens : List Nat) (x : Nat × Nat) : List Bool := codeBits (val lens x.1) (lens.getD x.1 0) ++ bitsN (rW x.1) (x.2 - rL x.1)
theorem partBits_len {lens : List Nat} (h : lensOK lens) (x : Nat × Nat) : (partBits lens x).length ≤ 22 := by
 unfold partBits
 rw [List.length_append, codeBits_length, bitsN_length]
 have h1 := rW_le x.1
 have h2 : lens.getD x.1 0 ≤ 15 := by
  rcases Nat.lt_or_ge x.1 lens.length with h3 | h3
  ·rw [getD_eq h3]; exact h.2.2.1 _ (List.getElem_mem h3)
  ·simp [List.getD, h3]
 omega
theorem flat_bd {α : Type} (f : α → List Bool) (b : Nat) (hf : ∀ x, (f x).length ≤ b) : ∀ s : List α, (s.flatMap f).length ≤ s.length * b
 | [] => by simp
 | x :: s => by
  have := flat_bd f b hf s
  have := hf x
  rw [List.flatMap_cons, List.length_append, List.length_cons, Nat.add_mul]; omega
noncomputable def putHead (l : List Nat) (i : Nat) : List Bool := bitsN 9 l.length ++ ((plens l).take i).flatMap (bitsN 4)
noncomputable def putR (l : List Nat) : List Bool := putHead l 19 ++ (partsL l 0).flatMap (partBits (plens l))
theorem putHead_len (l : List Nat) (i : Nat) : (putHead l i).length ≤ 9 + 76 := by
 unfold putHead
 have := flat_bd (bitsN 4) 4 (fun x => by rw [bitsN_length]; exact Nat.le_refl _) ((plens l).take i)
 rw [List.length_take, plens_len] at this
 rw [List.length_append, bitsN_length]
 omega
theorem putHead_succ {l : List Nat} {i : Nat} (hi : i < 19) : putHead l (i + 1) = putHead l i ++ bitsN 4 ((plens l).getD i 0) := by
 unfold putHead
 rw [take_snoc (by rw [plens_len]; exact hi), List.flatMap_append, List.append_assoc]; simp
end Go.Bn
set_option linter.unusedVariables false
set_option linter.unusedSimpArgs false
namespace Go.Bn
open Go
section
variable {c : Cx} {k : List SItem} {E : Env} {hp : Heap}
theorem post_mark2 {vs : List Value} {a : Act} {w : World} {D : List Deferred} {d e : Nat} (hD : D = [mark d, mark e]) (hd : hp[d]? = some (.deferred (some []))) (he : (shutH hp d)[e]? = some (.deferred (some []))) (h : RVs c.P (shutH (shutH hp d) e) E c.fn.results.toList vs) (hΦ : c.Φ (retVal vs) (shutH (shutH hp d) e)) (ho : OK c.fn.ntmps E a) (hi : Inv c.w0 w) (hw : w.heap = hp) :
  LeavesInM Fence.wide 0 c.P c.fn a.tmps c.R D .returning w := by
 subst hD
 have hh1 : (w.putObj d (.deferred none)).heap = shutH hp d := by rw [← hw]; rfl
 have ht : (Instr.takeDeferred d).run c.P w = .ok [] (w.putObj d (.deferred none)) := run_takeDeferred (by rw [hw]; exact hd)
 have ht2 : (Instr.takeDeferred e).run c.P (w.putObj d (.deferred none)) = .ok [] ((w.putObj d (.deferred none)).putObj e (.deferred none)) := run_takeDeferred (by rw [hh1]; exact he)
 refine ⟨by simp, .inl ⟨d, w.putObj d (.deferred none), rfl, ht, ?_⟩⟩
 refine ⟨by simp, .inl ⟨e, (w.putObj d (.deferred none)).putObj e (.deferred none), rfl, ht2, ?_⟩⟩
 have hh : ((w.putObj d (.deferred none)).putObj e (.deferred none)).heap = shutH (shutH hp d) e := by rw [← hw]; rfl
 exact ⟨retVal vs, results_run ho hh h, retVal vs, rfl, ⟨hi.os, hi.tape, hi.output⟩, by rw [hh]; exact hΦ⟩
attribute [local semireducible] X in
theorem X_retM2 {vs : List Value} {d e : Nat} (h : RVs c.P (shutH (shutH hp d) e) E c.fn.results.toList vs) (hΦ : c.Φ (retVal vs) (shutH (shutH hp d) e)) (hd : hp[d]? = some (.deferred (some []))) (he : (shutH hp d)[e]? = some (.deferred (some []))) (hB : c.B = bodyPostM Fence.wide 0 c.P c.fn c.R := by rfl) (hD : c.D = [mark d, mark e] := by rfl) : X c (.code .ret :: k) E hp := fun a w ho hi hw => by
 refine wpIn_ret (SQ_ret ?_ k)
 rw [hB]
 exact post_mark2 (ho.2.trans hD) hd he h hΦ ho.1 hi hw
end
end Go.Bn
end

section
namespace Go.Bn
theorem lensW_ok {ws : List Nat} (h1 : 1 ≤ ws.length) (h2 : ws.length ≤ 320) (hs : (syms ws).length ≠ 0) : lensOK (lensW ws) := by
 refine ⟨by rw [lensW_length]; exact h1, by rw [lensW_length]; exact h2, lensW_le ws, ?_⟩
 by_cases h : (syms ws).length = 1
 ·exact .inr (lensW_one h (by omega))
 ·exact .inl (lensW_kraft (by omega) (by omega))
theorem rightC_cast {ls : List Nat} (h : lensOK ls) : rightC (castI ls) := by
 obtain ⟨h1, h2, h3, h4⟩ := h
 refine ⟨by unfold castI; rw [List.length_map]; exact h1, ⟨by unfold castI; rw [List.length_map]; exact h2, fun x hx => ?_⟩, by rw [castI_toNat]; exact h4⟩
 obtain ⟨y, hy, rfl⟩ := List.mem_map.1 hx
 have := h3 y hy
 omega
theorem addAt_ge (l : List Nat) (i j : Nat) : l.getD j 0 ≤ (addAt l i).getD j 0 := by
 unfold addAt
 rw [List.getD_eq_getElem?_getD, List.getD_eq_getElem?_getD, List.getElem?_set]
 split
 ·rename_i h
  subst h
  split
  ·rw [List.getD_eq_getElem?_getD]; simp
  ·rw [List.getElem?_eq_none (by omega)]; simp
 ·exact Nat.le_refl _
theorem addAt_pos {l : List Nat} {i : Nat} (h : i < l.length) : 0 < (addAt l i).getD i 0 := by
 unfold addAt
 rw [List.getD_eq_getElem?_getD, List.getElem?_set, if_pos rfl, if_pos h]
 simp
theorem foldW_first (ys : List Sy) : 0 < (foldW ys).1.getD 256 0 := by
 suffices h : ∀ (ys : List Sy) (s : List Nat × List Nat × Nat), 0 < s.1.getD 256 0 → 0 < (ys.foldl stepW s).1.getD 256 0 from h ys startW (by decide +kernel)
 intro ys
 induction ys with
 | nil => intro s h; exact h
 | cons y ys ih =>
  intro s h
  rw [List.foldl_cons]
  exact ih _ (Nat.lt_of_lt_of_le h (addAt_ge s.1 y.a.num.toNat 256))
theorem firstW_syms (ys : List Sy) : (syms (firstW ys)).length ≠ 0 := by
 have h : 256 ∈ syms (firstW ys) := mem_syms.2 ⟨by unfold firstW; rw [(foldW_ok ys).1]; decide, foldW_first ys⟩
 have := List.length_pos_of_mem h
 omega
theorem foldW_second {ys : List Sy} (hb : ∀ y ∈ ys, y.b.num.toNat < 30) : (foldW ys).2.2 = 0 ∨ ∃ i, i < 30 ∧ 0 < (foldW ys).2.1.getD i 0 := by
 suffices h : ∀ (ys : List Sy), (∀ y ∈ ys, y.b.num.toNat < 30) → ∀ (s : List Nat × List Nat × Nat), s.2.1.length = 30 → (s.2.2 = 0 ∨ ∃ i, i < 30 ∧ 0 < s.2.1.getD i 0) → ((ys.foldl stepW s).2.2 = 0 ∨ ∃ i, i < 30 ∧ 0 < (ys.foldl stepW s).2.1.getD i 0) from h ys hb startW (by decide +kernel) (.inl rfl)
 intro ys
 induction ys with
 | nil => intro _ s _ h; exact h
 | cons y ys ih =>
  intro hb s hl h
  rw [List.foldl_cons]
  have hy := hb y List.mem_cons_self
  refine ih (fun z hz => hb z (List.mem_cons_of_mem _ hz)) _ ?_ ?_
  ·simp only [stepW]; split
   ·rw [addAt_length]; exact hl
   ·exact hl
  ·simp only [stepW]
   by_cases hm : y.m = true
   ·rw [if_pos hm, if_pos hm]
    exact .inr ⟨_, hy, addAt_pos (by omega)⟩
   ·rw [if_neg hm, if_neg hm]; exact h
theorem secondW_len (ys : List Sy) : (secondW ys).length = 30 := by
 unfold secondW
 split
 ·rw [List.length_set]; exact (foldW_ok ys).2.1
 ·exact (foldW_ok ys).2.1
theorem firstW_len (ys : List Sy) : (firstW ys).length = 273 := (foldW_ok ys).1
theorem secondW_syms {ys : List Sy} (hb : ∀ y ∈ ys, y.b.num.toNat < 30) : (syms (secondW ys)).length ≠ 0 := by
 have h : ∃ i, i ∈ syms (secondW ys) := by
  by_cases h0 : (foldW ys).2.2 = 0
  ·refine ⟨0, mem_syms.2 ⟨by rw [secondW_len]; decide, ?_⟩⟩
   unfold wkey secondW
   rw [if_pos h0, List.getD_eq_getElem?_getD, List.getElem?_set, if_pos rfl, if_pos (by rw [(foldW_ok ys).2.1]; decide)]
   exact Nat.zero_lt_one
  ·rcases foldW_second hb with h1 | ⟨i, h1, h2⟩
   ·exact absurd h1 h0
   ·refine ⟨i, mem_syms.2 ⟨by rw [secondW_len]; exact h1, ?_⟩⟩
    unfold wkey secondW
    rw [if_neg h0]; exact h2
 obtain ⟨i, h⟩ := h
 have := List.length_pos_of_mem h
 omega
theorem firstW_le (ys : List Sy) : ∀ x ∈ firstW ys, x ≤ 1 + ys.length := fun x hx => Nat.le_trans (le_sum hx) (foldW_ok ys).2.2.1
theorem secondW_le (ys : List Sy) : ∀ x ∈ secondW ys, x ≤ 1 + ys.length := fun x hx => by
 unfold secondW at hx
 split at hx
 ·rcases List.mem_or_eq_of_mem_set hx with h | h
  ·have := Nat.le_trans (le_sum h) (foldW_ok ys).2.2.2.1; omega
  ·omega
 ·have := Nat.le_trans (le_sum hx) (foldW_ok ys).2.2.2.1; omega
def symB (ls : List Nat) (c : Kls) : List Bool := codeBits (val ls c.num.toNat) (lenAt ls c.num) ++ bitsN (wd 32 c.bits) c.ext.toNat
def syB (la lb : List Nat) (y : Sy) : List Bool := symB la y.a ++ (if y.m = true then symB lb y.b else [])
noncomputable def lA (ys : List Sy) : List Nat := lensW (firstW ys)
noncomputable def lB (ys : List Sy) : List Nat := lensW (secondW ys)
noncomputable def blockB (ys : List Sy) : List Bool := putR (lA ys) ++ putR (lB ys) ++ ys.flatMap (syB (lA ys) (lB ys)) ++ codeBits (val (lA ys) 256) (lenAt (lA ys) 256)
theorem lA_ok (ys : List Sy) : lensOK (lA ys) := lensW_ok (by rw [firstW_len]; decide) (by rw [firstW_len]; decide) (firstW_syms ys)
theorem lB_ok {ys : List Sy} (hb : ∀ y ∈ ys, y.b.num.toNat < 30) : lensOK (lB ys) := lensW_ok (by rw [secondW_len]; decide) (by rw [secondW_len]; decide) (secondW_syms hb)
theorem putR_len {l : List Nat} (h : lensOK l) : (putR l).length ≤ 85 + l.length * 22 := by
 have hok := plens_ok h.2.2.1 h.1
 have h1 := flat_bd (partBits (plens l)) 22 (partBits_len hok) (partsL l 0)
 have h2 := putHead_len l 19
 have h3 := partsL_len l
 have h4 := Nat.mul_le_mul_right 22 h3
 unfold putR
 rw [List.length_append]
 omega
theorem symB_len {ls : List Nat} (h : lensOK ls) (c : Kls) : (symB ls c).length ≤ 47 := by
 unfold symB
 rw [List.length_append, codeBits_length, bitsN_length]
 have h1 := lens_le h c.num
 have h2 : wd 32 c.bits ≤ 32 := wd_le _ _
 omega
theorem syB_len {la lb : List Nat} (ha : lensOK la) (hb : lensOK lb) (y : Sy) : (syB la lb y).length ≤ 94 := by
 unfold syB
 have h1 := symB_len ha y.a
 have h2 := symB_len hb y.b
 rw [List.length_append]
 split
 ·omega
 ·rw [List.length_nil]; omega
end Go.Bn
end

section
namespace Go.Bn
open Go Proofs
theorem numB_here (Q : List Bool) {k x : Nat} (z : List Bool) (hx : x < 2 ^ k) : numB (Q ++ (bitsN k x ++ z)) Q.length k = x := by
 unfold numB
 rw [List.drop_left, List.take_append_of_le_length (by rw [bitsN_length]; exact Nat.le_refl _), List.take_of_length_le (by rw [bitsN_length]; exact Nat.le_refl _), valB_bitsN, Nat.mod_eq_of_lt hx]
theorem rH_rW (s : Nat) : rH s - rL s < 2 ^ rW s := by
 unfold rH rL rW
 split
 ·decide
 ·split
  ·decide
  ·split
   ·decide
   ·decide
theorem goT_parts {ls lens : List Nat} (hb : ∀ x ∈ ls, x ≤ 15) (hok : lensOK lens) (h19 : lens.length = 19) (z : List Bool) : ∀ (f a : Nat) (Q : List Bool), a ≤ ls.length → ls.length < a + f → (∀ x ∈ partsL ls a, lens.getD x.1 0 ≠ 0) →
  goT lens (Q ++ ((partsL ls a).flatMap (partBits lens) ++ z)) ls.length f Q.length (ls.take a) = (ls, (Q ++ (partsL ls a).flatMap (partBits lens)).length, 0)
 | 0, a, Q, ha, hf, hp => by omega
 | f + 1, a, Q, ha, hf, hp => by
  rw [goT]
  have hlt := List.length_take (l := ls) (i := a)
  rw [Nat.min_eq_left ha] at hlt
  rw [hlt]
  by_cases h : a < ls.length
  ·rw [if_neg (by omega)]
   have hfit := partAt_fits hb h
   have hm := partAt_many h
   have hrl := runAt_le ls a
   have hadd := partAt_add hb h
   rw [partsL_cons h] at hp ⊢
   obtain ⟨x, hx⟩ : ∃ x, partAt ls a = x := ⟨_, rfl⟩
   rw [hx] at hfit hm hadd hp ⊢
   have hx0 := hp x List.mem_cons_self
   have hxl : x.1 < lens.length := by omega
   have hge := getD_eq hxl
   rw [hge] at hx0
   have ih := goT_parts hb hok h19 z f (a + x.2) (Q ++ partBits lens x) (by omega) (by omega) (fun y hy => hp y (List.mem_cons_of_mem _ hy))
   obtain ⟨R, hR⟩ : ∃ R, (partsL ls (a + x.2)).flatMap (partBits lens) = R := ⟨_, rfl⟩
   rw [List.flatMap_cons, hR]
   rw [hR] at ih
   have hpb : partBits lens x = codeBits (val lens x.1) lens[x.1] ++ bitsN (rW x.1) (x.2 - rL x.1) := by unfold partBits; rw [hge]
   obtain ⟨S, hS⟩ : ∃ S, Q ++ (partBits lens x ++ R ++ z) = S := ⟨_, rfl⟩
   have hS1 : S = Q ++ (codeBits (val lens x.1) lens[x.1] ++ (bitsN (rW x.1) (x.2 - rL x.1) ++ (R ++ z))) := by rw [← hS, hpb]; simp
   have hS2 : S = (Q ++ codeBits (val lens x.1) lens[x.1]) ++ (bitsN (rW x.1) (x.2 - rL x.1) ++ (R ++ z)) := by rw [hS1]; simp
   have hS3 : Q ++ partBits lens x ++ (R ++ z) = S := by rw [← hS]; simp
   have htk : takeC lens (S.drop Q.length) = (x.1, lens[x.1], 0) := by rw [hS1, List.drop_left]; exact takeC_put hok hxl hx0 _
   have hrw := rH_rW x.1
   have hnum : numB S (Q.length + lens[x.1]) (rW x.1) = x.2 - rL x.1 := by
    have := numB_here (Q ++ codeBits (val lens x.1) lens[x.1]) (R ++ z) (show x.2 - rL x.1 < 2 ^ rW x.1 by omega)
    rw [← hS2, List.length_append, codeBits_length] at this
    exact this
   have hSl : Q.length + lens[x.1] + rW x.1 ≤ S.length := by rw [hS2]; simp only [List.length_append, codeBits_length, bitsN_length]; omega
   rw [hS3] at ih
   rw [hS, htk]
   simp only
   rw [hnum, if_neg (by omega), if_neg (by omega), if_neg (fun hh => by have := hfit.2.2.2 hh.1; omega), if_neg (by omega), show rL x.1 + (x.2 - rL x.1) = x.2 by omega, hadd]
   rw [show (Q ++ partBits lens x).length = Q.length + lens[x.1] + rW x.1 by rw [hpb]; simp only [List.length_append, codeBits_length, bitsN_length]; omega] at ih
   rw [ih]
   simp only [List.append_assoc]
  ·rw [if_pos (by omega), partsL_end (by omega), List.take_of_length_le (by omega)]
   simp
theorem putHead_len_eq (l : List Nat) : ∀ i, i ≤ 19 → (putHead l i).length = 9 + 4 * i
 | 0, _ => by unfold putHead; simp [bitsN_length]
 | i + 1, h => by
  rw [putHead_succ (by omega), List.length_append, putHead_len_eq l i (by omega), bitsN_length]; omega
theorem putHead_pre (l : List Nat) : ∀ j i, i + j = 19 → ∃ r, putHead l 19 = putHead l i ++ r
 | 0, i, h => ⟨[], by rw [List.append_nil, show i = 19 by omega]⟩
 | j + 1, i, h => by
  obtain ⟨r, hr⟩ := putHead_pre l j (i + 1) (by omega)
  exact ⟨bitsN 4 ((plens l).getD i 0) ++ r, by rw [hr, putHead_succ (by omega), List.append_assoc]⟩
theorem takeR_putQ {ls : List Nat} (hb : ∀ x ∈ ls, x ≤ 15) (h1 : 1 ≤ ls.length) (h320 : ls.length ≤ 320) (Q z : List Bool) : takeR (Q ++ (putR ls ++ z)) Q.length (okR (Q ++ (putR ls ++ z)) Q.length) = (ls, Q.length + (putR ls).length, 0) := by
 have hok := plens_ok hb h1
 have h19 := plens_len ls
 have hl85 := putHead_len_eq ls 19 (by omega)
 obtain ⟨R, hR⟩ : ∃ R, (partsL ls 0).flatMap (partBits (plens ls)) = R := ⟨_, rfl⟩
 have hput : putR ls = putHead ls 19 ++ R := by unfold putR; rw [hR]
 obtain ⟨S, hS⟩ : ∃ S, Q ++ (putR ls ++ z) = S := ⟨_, rfl⟩
 have hS1 : S = Q ++ (putHead ls 19 ++ (R ++ z)) := by rw [← hS, hput, List.append_assoc]
 have hn : numB S Q.length 9 = ls.length := by
  have := numB_here Q (k := 9) (x := ls.length) (((plens ls).take 19).flatMap (bitsN 4) ++ (R ++ z)) (by omega)
  rw [hS1]
  unfold putHead
  rw [List.append_assoc]
  exact this
 have hlens : lens19 S (Q.length + 9) 19 = plens ls := by
  refine List.ext_getElem (by rw [lens19_len, h19]) fun k q1 q2 => ?_
  simp only [lens19, List.getElem_map, List.getElem_range]
  rw [if_pos (by omega)]
  obtain ⟨r, hr⟩ := putHead_pre ls (18 - k) (k + 1) (by omega)
  have hle := hok.2.2.1 _ (List.getElem_mem q2)
  have := numB_here (Q ++ putHead ls k) (k := 4) (x := (plens ls)[k]) (r ++ (R ++ z)) (by omega)
  rw [List.length_append, putHead_len_eq ls k (by omega)] at this
  rw [hS1, hr, putHead_succ (by omega), getD_eq q2, List.append_assoc, List.append_assoc]
  rw [show Q.length + 9 + 4 * k = Q.length + (9 + 4 * k) by omega]
  rw [List.append_assoc] at this
  exact this
 have hokr : okR S Q.length = true := by
  unfold okR
  rw [hlens]
  refine decide_eq_true ?_
  refine ⟨by rw [List.length_map, h19]; omega, ⟨by rw [List.length_map, h19]; omega, fun x hx => ?_⟩, by rw [cast_toNat]; exact hok.2.2.2⟩
  obtain ⟨y, hy, rfl⟩ := List.mem_map.1 hx
  have := hok.2.2.1 y hy; omega
 have hSl : Q.length + 85 ≤ S.length := by rw [hS1, List.length_append, List.length_append]; omega
 rw [hS, hokr]
 have hH : headE S Q.length true = 0 := by
  unfold headE
  rw [if_neg (by omega), hn, if_neg (by omega), if_neg (by omega), if_pos rfl]
 unfold takeR
 rw [if_neg (by omega), hlens, hn]
 have := goT_parts hb hok h19 z 321 0 (Q ++ putHead ls 19) (by omega) (by omega) (fun x hx => plens_pos hb hx)
 rw [hR, List.append_assoc, ← hS1, List.take_zero, List.length_append, hl85, List.append_assoc, ← hput, List.length_append] at this
 exact this
theorem clsT_back {ls : List Nat} (hok : lensOK ls) {c : Kls} {n fr : Nat} (hn : c.num = n) (hl : n < ls.length) (h0 : ls[n] ≠ 0) (hlit : n < fr → c.bits = 0 ∧ c.ext = 0) (hbig : fr ≤ n → c.bits = bitsC (n - fr) ∧ 0 ≤ c.ext ∧ c.ext < ((2 ^ bitsC (n - fr) : Nat) : Int)) (h32 : fr ≤ n → bitsC (n - fr) ≤ 32) (Q Z : List Bool) :
  clsT ls fr (Q ++ (symB ls c ++ Z)) Q.length = (c, Q.length + (symB ls c).length, 0) := by
 have hge : lenAt ls c.num = ls[n] := by
  unfold lenAt
  rw [hn, if_neg (by omega), Int.toNat_natCast]
  exact getD_get hl
 obtain ⟨cn, cb, ce⟩ := c
 simp only at hn hlit hbig hge ⊢
 subst hn
 have hsy : symB ls ⟨n, cb, ce⟩ = codeBits (val ls n) ls[n] ++ bitsN (wd 32 cb) ce.toNat := by
  unfold symB
  simp only [Int.toNat_natCast]
  rw [hge]
 obtain ⟨S, hS⟩ : ∃ S, Q ++ (symB ls ⟨n, cb, ce⟩ ++ Z) = S := ⟨_, rfl⟩
 have hS1 : S = Q ++ (codeBits (val ls n) ls[n] ++ (bitsN (wd 32 cb) ce.toNat ++ Z)) := by rw [← hS, hsy, List.append_assoc]
 have hS2 : S = (Q ++ codeBits (val ls n) ls[n]) ++ (bitsN (wd 32 cb) ce.toNat ++ Z) := by rw [hS1]; simp
 have htk : takeC ls (S.drop Q.length) = (n, ls[n], 0) := by rw [hS1, List.drop_left]; exact takeC_put hok hl h0 _
 have hslen : (symB ls ⟨n, cb, ce⟩).length = ls[n] + wd 32 cb := by rw [hsy, List.length_append, codeBits_length, bitsN_length]
 rw [hS, hslen]
 unfold clsT
 rw [htk]
 simp only
 by_cases hlt : n < fr
 ·obtain ⟨rfl, rfl⟩ := hlit hlt
  rw [if_pos (.inr hlt)]
  rfl
 ·obtain ⟨hb, he1, he2⟩ := hbig (by omega)
  have h32 := h32 (by omega)
  obtain ⟨e, rfl⟩ : ∃ e : Nat, ce = e := ⟨ce.toNat, by omega⟩
  have hw : wd 32 cb = bitsC (n - fr) := by unfold wd; omega
  have he3 : e < 2 ^ bitsC (n - fr) := by omega
  rw [hw, Int.toNat_natCast] at hS2
  have hnum : numB S (Q.length + ls[n]) (bitsC (n - fr)) = e := by
   have := numB_here (Q ++ codeBits (val ls n) ls[n]) Z he3
   rw [← hS2, List.length_append, codeBits_length] at this
   exact this
  have hSl : Q.length + ls[n] + bitsC (n - fr) ≤ S.length := by rw [hS2]; simp only [List.length_append, codeBits_length, bitsN_length]; omega
  rw [if_neg (by omega), if_neg (by omega), hnum, hw, hb]
  simp only [Nat.add_assoc]
theorem klsOf_ok (v : Nat) : (klsOf v).num = klsN v ∧ (klsOf v).bits = bitsC (klsN v) ∧ 0 ≤ (klsOf v).ext ∧ (klsOf v).ext < ((2 ^ bitsC (klsN v) : Nat) : Int) := by
 obtain ⟨h1, h2, _⟩ := klsN_between v
 rw [show baseC (klsN v + 1) = baseC (klsN v) + 2 ^ bitsC (klsN v) from rfl] at h2
 refine ⟨rfl, rfl, by simp only [klsOf]; omega, by simp only [klsOf]; omega⟩
theorem bitsC_le {i : Nat} (h : i < 30) : bitsC i ≤ 32 := by unfold bitsC; split <;> omega
theorem nextT_back {la lb : List Nat} (oka : lensOK la) (okb : lensOK lb) (h273 : la.length = 273) (h30 : lb.length = 30) {t : Tok} (ht : t.right) (hby : 0 ≤ t.byte ∧ t.byte < 256)
  (ha : la.getD (splitY t).a.num.toNat 0 ≠ 0) (hb : (splitY t).m = true → lb.getD (splitY t).b.num.toNat 0 ≠ 0) (Q Z : List Bool) :
  nextT la lb (Q ++ (syB la lb (splitY t) ++ Z)) Q.length = (t, Q.length + (syB la lb (splitY t)).length, false, 0) := by
 obtain ⟨hj, n1, n2, n3, n4, n5⟩ := join_split ht hby
 have ht' := ht
 unfold Tok.right at ht
 by_cases h0 : t.len = 0
 ·rw [if_pos h0] at ht
  have e : splitY t = ⟨⟨t.byte, 0, 0⟩, Kls.nil, false⟩ := by unfold splitY; rw [if_pos h0]
  rw [e] at hj ha ⊢
  obtain ⟨n, hn⟩ : ∃ n : Nat, t.byte = n := ⟨t.byte.toNat, by omega⟩
  simp only [hn, Int.toNat_natCast] at hj ha ⊢
  have hl : n < la.length := by omega
  rw [getD_get hl] at ha
  have hsy : syB la lb ⟨⟨n, 0, 0⟩, Kls.nil, false⟩ = symB la ⟨n, 0, 0⟩ := by unfold syB; simp
  rw [hsy]
  have hc := clsT_back oka (c := ⟨n, 0, 0⟩) (fr := 257) rfl hl ha (fun _ => ⟨rfl, rfl⟩) (fun h => by omega) (fun h => by omega) Q Z
  unfold nextT
  rw [hc]
  simp only
  rw [if_neg (by omega), if_neg (by omega), hj, if_pos rfl]
 ·rw [if_neg h0] at ht
  obtain ⟨g1, g2, g3, g4, g5⟩ := ht
  have e : splitY t = ⟨⟨(klsOf (t.len - 3).toNat).num + 257, (klsOf (t.len - 3).toNat).bits, (klsOf (t.len - 3).toNat).ext⟩, klsOf (t.dist - 1).toNat, true⟩ := by unfold splitY; rw [if_neg h0]
  have k1 := klsN_255 (show (t.len - 3).toNat < 256 by omega)
  have k2 := (klsN_between (t.dist - 1).toNat).2.2 (by omega)
  obtain ⟨p1, p2, p3, p4⟩ := klsOf_ok (t.len - 3).toNat
  obtain ⟨q1, q2, q3, q4⟩ := klsOf_ok (t.dist - 1).toNat
  rw [e] at hj ha hb ⊢
  obtain ⟨ka, hka⟩ : ∃ k, klsOf (t.len - 3).toNat = k := ⟨_, rfl⟩
  obtain ⟨kb, hkb⟩ : ∃ k, klsOf (t.dist - 1).toNat = k := ⟨_, rfl⟩
  obtain ⟨na, hna⟩ : ∃ k, klsN (t.len - 3).toNat = k := ⟨_, rfl⟩
  obtain ⟨nb, hnb⟩ : ∃ k, klsN (t.dist - 1).toNat = k := ⟨_, rfl⟩
  rw [hka, hna] at p1 p2 p4
  rw [hka] at p3 hj ha hb ⊢
  rw [hkb, hnb] at q1 q2 q4
  rw [hkb] at q3 hj hb ⊢
  rw [hna] at k1
  rw [hnb] at k2
  have hb := hb rfl
  simp only at ha hb
  rw [show (ka.num + 257).toNat = na + 257 by omega] at ha
  rw [show kb.num.toNat = nb by omega] at hb
  have hla : na + 257 < la.length := by omega
  have hlb : nb < lb.length := by omega
  rw [getD_get hla] at ha
  rw [getD_get hlb] at hb
  have hsy : syB la lb ⟨⟨ka.num + 257, ka.bits, ka.ext⟩, kb, true⟩ = symB la ⟨ka.num + 257, ka.bits, ka.ext⟩ ++ symB lb kb := by unfold syB; rw [if_pos rfl]
  rw [hsy]
  have hc := clsT_back oka (c := ⟨ka.num + 257, ka.bits, ka.ext⟩) (n := na + 257) (fr := 257) (by show ka.num + 257 = ((na + 257 : Nat) : Int); omega) hla ha (fun h => by omega) (fun _ => by rw [show na + 257 - 257 = na by omega]; exact ⟨p2, p3, p4⟩) (fun _ => bitsC_le (by omega)) Q (symB lb kb ++ Z)
  have hd := clsT_back okb (c := kb) (n := nb) (fr := 0) q1 hlb hb (fun h => by omega) (fun _ => ⟨q2, q3, q4⟩) (fun _ => bitsC_le (by omega)) (Q ++ symB la ⟨ka.num + 257, ka.bits, ka.ext⟩) Z
  rw [List.length_append, List.append_assoc] at hd
  unfold nextT
  rw [List.append_assoc, hc]
  simp only
  rw [if_neg (by omega), if_pos (by omega), hd]
  simp only
  rw [if_neg (by omega), hj, if_pos rfl, List.length_append, Nat.add_assoc]
theorem nextT_end {la lb : List Nat} (oka : lensOK la) (h273 : la.length = 273) (ha : la.getD 256 0 ≠ 0) (Q Z : List Bool) :
  nextT la lb (Q ++ (codeBits (val la 256) (lenAt la 256) ++ Z)) Q.length = (Tok.nil, Q.length + (codeBits (val la 256) (lenAt la 256)).length, true, 0) := by
 have hl : 256 < la.length := by omega
 rw [getD_get hl] at ha
 have hsy : symB la ⟨(256 : Nat), 0, 0⟩ = codeBits (val la 256) (lenAt la 256) := by unfold symB; simp [wd]; rfl
 have hc := clsT_back oka (c := ⟨(256 : Nat), 0, 0⟩) (fr := 257) rfl hl ha (fun _ => ⟨rfl, rfl⟩) (fun h => by omega) (fun h => by omega) Q Z
 rw [hsy] at hc
 unfold nextT
 rw [hc]
 simp only
 rw [if_pos (.inr rfl)]
def distOK : Nat → List Tok → Prop
  | _, [] => True
  | sz, t :: ts => t.dist ≤ sz ∧ distOK (sz + t.size) ts
def sizeT (ts : List Tok) : Nat := (ts.map Tok.size).sum
theorem goB_back {la lb : List Nat} (oka : lensOK la) (okb : lensOK lb) (h273 : la.length = 273) (h30 : lb.length = 30) (h256 : la.getD 256 0 ≠ 0) (Z : List Bool) {most : Int} : ∀ (ts : List Tok), (∀ t ∈ ts, t.right ∧ (0 ≤ t.byte ∧ t.byte < 256) ∧ la.getD (splitY t).a.num.toNat 0 ≠ 0 ∧ ((splitY t).m = true → lb.getD (splitY t).b.num.toNat 0 ≠ 0)) → ∀ (f sz : Nat) (acc : List Tok) (Q : List Bool), ts.length < f → distOK sz ts → ((sz + sizeT ts : Nat) : Int) ≤ most →
  goB la lb (Q ++ ((ts.map splitY).flatMap (syB la lb) ++ (codeBits (val la 256) (lenAt la 256) ++ Z))) most f Q.length sz acc = (acc ++ ts, sz + sizeT ts, Q.length + ((ts.map splitY).flatMap (syB la lb)).length + (codeBits (val la 256) (lenAt la 256)).length, 0)
 | [], _, f, sz, acc, Q, hf, _, _ => by
  obtain ⟨g, rfl⟩ : ∃ g, f = g + 1 := ⟨f - 1, by simp at hf; omega⟩
  have hn := nextT_end (lb := lb) oka h273 h256 Q Z
  rw [List.map_nil, List.flatMap_nil, List.nil_append, goB, hn]
  simp [sizeT]
 | t :: ts, h, f, sz, acc, Q, hf, hd, hm => by
  obtain ⟨g, rfl⟩ : ∃ g, f = g + 1 := ⟨f - 1, by simp at hf; omega⟩
  obtain ⟨h1, h2, h3, h4⟩ := h t List.mem_cons_self
  obtain ⟨d1, d2⟩ := hd
  have hst : sizeT (t :: ts) = t.size + sizeT ts := by simp [sizeT]
  rw [hst] at hm ⊢
  rw [List.map_cons, List.flatMap_cons, List.append_assoc]
  have hn := nextT_back oka okb h273 h30 h1 h2 h3 h4 Q ((ts.map splitY).flatMap (syB la lb) ++ (codeBits (val la 256) (lenAt la 256) ++ Z))
  have ih := goB_back oka okb h273 h30 h256 Z (most := most) ts (fun x hx => h x (List.mem_cons_of_mem _ hx)) g (sz + t.size) (acc ++ [t]) (Q ++ syB la lb (splitY t)) (by simp at hf; omega) d2 (by omega)
  rw [goB, hn]
  simp only
  rw [if_neg (by simp), if_neg (by omega), if_neg (by omega)]
  rw [List.append_assoc, List.length_append] at ih
  rw [ih, List.length_append]
  simp only [List.append_assoc, List.cons_append, List.nil_append, Prod.mk.injEq, and_true, true_and]
  omega
end Go.Bn
end

section
namespace Go.Bn
open Go Proofs
theorem getD_lensW {ws : List Nat} {s : Nat} (h2 : ws.length ≤ 16000) (hs : s < ws.length) (hp : 0 < ws.getD s 0) : (lensW ws).getD s 0 ≠ 0 := by
 rw [lensW_get hs]
 have := lenW_pos (ws := ws) h2 (mem_syms.2 ⟨hs, hp⟩)
 omega
theorem foldW_mem : ∀ (ys : List Sy) (s : List Nat × List Nat × Nat) (y : Sy), s.1.length = 273 → s.2.1.length = 30 → y.a.num.toNat < 273 → y.b.num.toNat < 30 →
  ((y ∈ ys ∨ 0 < s.1.getD y.a.num.toNat 0) → 0 < (ys.foldl stepW s).1.getD y.a.num.toNat 0) ∧ ((y.m = true ∧ y ∈ ys ∨ 0 < s.2.1.getD y.b.num.toNat 0) → 0 < (ys.foldl stepW s).2.1.getD y.b.num.toNat 0) ∧ ((y.m = true ∧ y ∈ ys ∨ 0 < s.2.2) → 0 < (ys.foldl stepW s).2.2)
 | [], s, y, _, _, _, _ => ⟨fun h => h.resolve_left (by simp), fun h => h.resolve_left (by simp), fun h => h.resolve_left (by simp)⟩
 | z :: ys, s, y, h1, h2, h3, h4 => by
  rw [List.foldl_cons]
  obtain ⟨i1, i2, i3⟩ := foldW_mem ys (stepW s z) y (by simp only [stepW]; rw [addAt_length]; exact h1) (by simp only [stepW]; split; rw [addAt_length]; exact h2; exact h2) h3 h4
  refine ⟨fun h => i1 ?_, fun h => i2 ?_, fun h => i3 ?_⟩
  ·rcases h with h | h
   ·rcases List.mem_cons.1 h with rfl | h
    ·exact .inr (addAt_pos (by omega))
    ·exact .inl h
   ·exact .inr (Nat.lt_of_lt_of_le h (addAt_ge _ _ _))
  ·simp only [stepW]
   rcases h with ⟨hm, h⟩ | h
   ·rcases List.mem_cons.1 h with rfl | h
    ·rw [if_pos hm]; exact .inr (addAt_pos (by omega))
    ·exact .inl ⟨hm, h⟩
   ·refine .inr ?_
    split
    ·exact Nat.lt_of_lt_of_le h (addAt_ge _ _ _)
    ·exact h
  ·simp only [stepW]
   rcases h with ⟨hm, h⟩ | h
   ·rcases List.mem_cons.1 h with rfl | h
    ·rw [if_pos hm]; exact .inr (Nat.succ_pos _)
    ·exact .inl ⟨hm, h⟩
   ·refine .inr ?_
    split <;> omega
theorem lA_pos {ys : List Sy} {y : Sy} (hy : y ∈ ys) (h3 : y.a.num.toNat < 273) (h4 : y.b.num.toNat < 30) : (lA ys).getD y.a.num.toNat 0 ≠ 0 := by
 have hs : startW.1.length = 273 ∧ startW.2.1.length = 30 := by decide +kernel
 unfold lA
 exact getD_lensW (by rw [firstW_len]; decide) (by rw [firstW_len]; exact h3) ((foldW_mem ys startW y hs.1 hs.2 h3 h4).1 (.inl hy))
theorem lA_256 (ys : List Sy) : (lA ys).getD 256 0 ≠ 0 := by
 unfold lA
 exact getD_lensW (by rw [firstW_len]; decide) (by rw [firstW_len]; decide) (foldW_first ys)
theorem lB_pos {ys : List Sy} {y : Sy} (hy : y ∈ ys) (h3 : y.a.num.toNat < 273) (h4 : y.b.num.toNat < 30) (hm : y.m = true) : (lB ys).getD y.b.num.toNat 0 ≠ 0 := by
 have hs : startW.1.length = 273 ∧ startW.2.1.length = 30 := by decide +kernel
 obtain ⟨_, i2, i3⟩ := foldW_mem ys startW y hs.1 hs.2 h3 h4
 have h0 := i3 (.inl ⟨hm, hy⟩)
 unfold lB
 refine getD_lensW (by rw [secondW_len]; decide) (by rw [secondW_len]; exact h4) ?_
 unfold secondW
 rw [if_neg (by unfold foldW; omega)]
 exact i2 (.inl ⟨hm, hy⟩)
theorem lA_len (ys : List Sy) : (lA ys).length = 273 := by unfold lA; rw [lensW_length, firstW_len]
theorem lB_len (ys : List Sy) : (lB ys).length = 30 := by unfold lB; rw [lensW_length, secondW_len]
theorem blockT_back {ts : List Tok} (hR : rightL ts) (hby : ∀ t ∈ ts, 0 ≤ t.byte ∧ t.byte < 256) (hd : distOK 0 ts) {most : Int} (hm : (sizeT ts : Int) ≤ most) (Z : List Bool) :
  blockT (blockB (ts.map splitY) ++ Z) most = (ts, sizeT ts, (blockB (ts.map splitY)).length, 0) := by
 obtain ⟨ys, hys⟩ : ∃ ys, ts.map splitY = ys := ⟨_, rfl⟩
 have hY : ∀ y ∈ ys, 0 ≤ y.a.num ∧ y.a.num < 273 ∧ 0 ≤ y.b.num ∧ y.b.num < 30 := fun y hy => by
  rw [← hys] at hy
  obtain ⟨t, ht, rfl⟩ := List.mem_map.1 hy
  obtain ⟨_, h1, h2, _, h3, h4⟩ := join_split (hR.2 t ht) (hby t ht)
  exact ⟨h1, h2, h3, h4⟩
 have oka := lA_ok ys
 have okb := lB_ok (ys := ys) (fun y hy => by have := hY y hy; omega)
 have hla := lA_len ys
 have hlb := lB_len ys
 have h256 := lA_256 ys
 have hT : ∀ t ∈ ts, t.right ∧ (0 ≤ t.byte ∧ t.byte < 256) ∧ (lA ys).getD (splitY t).a.num.toNat 0 ≠ 0 ∧ ((splitY t).m = true → (lB ys).getD (splitY t).b.num.toNat 0 ≠ 0) := fun t ht => by
  have hm : splitY t ∈ ys := by rw [← hys]; exact List.mem_map_of_mem ht
  obtain ⟨h1, h2, h3, h4⟩ := hY _ hm
  exact ⟨hR.2 t ht, hby t ht, lA_pos hm (by omega) (by omega), lB_pos hm (by omega) (by omega)⟩
 rw [hys]
 obtain ⟨la, hA⟩ : ∃ x, lA ys = x := ⟨_, rfl⟩
 obtain ⟨lb, hB⟩ : ∃ x, lB ys = x := ⟨_, rfl⟩
 have hbl : blockB ys = putR la ++ putR lb ++ ys.flatMap (syB la lb) ++ codeBits (val la 256) (lenAt la 256) := by unfold blockB; rw [hA, hB]
 rw [hA] at oka hla h256 hT
 rw [hB] at okb hlb hT
 obtain ⟨S, hS⟩ : ∃ S, blockB ys ++ Z = S := ⟨_, rfl⟩
 have hS1 : S = [] ++ (putR la ++ (putR lb ++ (ys.flatMap (syB la lb) ++ (codeBits (val la 256) (lenAt la 256) ++ Z)))) := by rw [← hS, hbl]; simp
 have hS2 : S = putR la ++ (putR lb ++ (ys.flatMap (syB la lb) ++ (codeBits (val la 256) (lenAt la 256) ++ Z))) := by rw [hS1]; rfl
 have hS3 : S = (putR la ++ putR lb) ++ (ys.flatMap (syB la lb) ++ (codeBits (val la 256) (lenAt la 256) ++ Z)) := by rw [hS2]; simp
 have t1 := takeR_putQ oka.2.2.1 oka.1 oka.2.1 [] (putR lb ++ (ys.flatMap (syB la lb) ++ (codeBits (val la 256) (lenAt la 256) ++ Z)))
 rw [← hS1, List.length_nil, Nat.zero_add] at t1
 have t2 := takeR_putQ okb.2.2.1 okb.1 okb.2.1 (putR la) (ys.flatMap (syB la lb) ++ (codeBits (val la 256) (lenAt la 256) ++ Z))
 rw [← hS2] at t2
 have hC : codesT S 0 = (0, la, lb, (putR la).length + (putR lb).length) := by
  unfold codesT
  rw [t1]
  simp only
  rw [t2]
  simp only
  rw [if_neg (by omega), if_neg (by omega), if_neg (by omega), if_neg (by rintro (h | h); exact h (rightC_cast oka); exact h (rightC_cast okb))]
 have hlen : S.length = (blockB ys).length + Z.length := by rw [← hS, List.length_append]
 have hyl : ys.length = ts.length := by rw [← hys, List.length_map]
 have hg := goB_back oka okb hla hlb h256 Z (most := most) ts hT (S.length + 1) 0 [] (putR la ++ putR lb) (by
  have : ∀ l : List Sy, (∀ y ∈ l, 1 ≤ (syB la lb y).length) → l.length ≤ (l.flatMap (syB la lb)).length := by
   intro l
   induction l with
   | nil => intro _; simp
   | cons y l ih =>
    intro h
    have h1 := h y List.mem_cons_self
    have h2 := ih fun z hz => h z (List.mem_cons_of_mem _ hz)
    rw [List.flatMap_cons, List.length_append, List.length_cons]; omega
  have h1 := this ys fun y hy => by
   rw [← hys] at hy
   obtain ⟨t, ht, rfl⟩ := List.mem_map.1 hy
   obtain ⟨_, _, g3, _⟩ := hT t ht
   have g := hY (splitY t) (by rw [← hys]; exact List.mem_map_of_mem ht)
   unfold syB symB
   rw [List.length_append, List.length_append, codeBits_length]
   have : lenAt la (splitY t).a.num = la.getD (splitY t).a.num.toNat 0 := by unfold lenAt; rw [if_neg (by omega)]
   omega
  rw [hS3]
  simp only [List.length_append]
  omega) hd (by rw [Nat.zero_add]; exact hm)
 rw [hys, ← hS3] at hg
 rw [hS]
 unfold blockT
 rw [hC]
 simp only
 rw [if_neg (by omega), ← List.length_append, hg, hbl]
 simp only [List.nil_append, Nat.zero_add, List.length_append, Prod.mk.injEq, and_true, true_and]
end Go.Bn
end

section
set_option linter.unusedVariables false
set_option linter.unusedSimpArgs false
namespace Go.Bn
def piecesF : Nat → List UInt8 → List UInt8 → List UInt8 × Int
  | 0, _, _ => ([], 2)
  | f + 1, l, out =>
    if l.length < 2 then ([], 2)
    else if l.length < 2 + leV (l.take 2) then ([], 2)
    else if leV (l.take 2) = 0 then (if 2 < l.length then ([], 3) else (out, 0))
    else piecesF f (l.drop (2 + leV (l.take 2))) (out ++ (l.drop 2).take (leV (l.take 2)))
def pieces (l : List UInt8) : List UInt8 × Int := piecesF (l.length + 1) l []
theorem piecesF_fuel : ∀ (f f' : Nat) (l out : List UInt8), l.length < f → l.length < f' → piecesF f l out = piecesF f' l out
 | 0, _, _, _, h, _ => by omega
 | _, 0, _, _, _, h => by omega
 | f + 1, f' + 1, l, out, h, h' => by
  simp only [piecesF]
  split
  ·rfl
  ·split
   ·rfl
   ·split
    ·rfl
    ·exact piecesF_fuel f f' _ _ (by rw [List.length_drop]; omega) (by rw [List.length_drop]; omega)
theorem piecesF_step {m : Nat} {l out : List UInt8} {a n : Nat} (hl : l.length = m) (h2 : a + 2 ≤ m) (hn : leV ((l.drop a).take 2) = n) (hle : a + 2 + n ≤ m) (h0 : n ≠ 0) :
  piecesF (m - a + 1) (l.drop a) out = piecesF (m - (a + 2 + n) + 1) (l.drop (a + 2 + n)) (out ++ (l.drop (a + 2)).take n) := by
 rw [piecesF, hn, if_neg (by rw [List.length_drop]; omega), if_neg (by rw [List.length_drop]; omega), if_neg h0, List.drop_drop, List.drop_drop, ← Nat.add_assoc]
 exact piecesF_fuel _ _ _ _ (by rw [List.length_drop]; omega) (by rw [List.length_drop]; omega)
theorem piecesF_short {m : Nat} {l out : List UInt8} {a : Nat} (hl : l.length = m) (h2 : m < a + 2) (ha : a ≤ m) : piecesF (m - a + 1) (l.drop a) out = ([], 2) := by
 rw [piecesF, if_pos (by rw [List.length_drop]; omega)]
theorem piecesF_long {m : Nat} {l out : List UInt8} {a n : Nat} (hl : l.length = m) (h2 : a + 2 ≤ m) (hn : leV ((l.drop a).take 2) = n) (hle : m < a + 2 + n) : piecesF (m - a + 1) (l.drop a) out = ([], 2) := by
 rw [piecesF, hn, if_neg (by rw [List.length_drop]; omega), if_pos (by rw [List.length_drop]; omega)]
theorem piecesF_more {m : Nat} {l out : List UInt8} {a : Nat} (hl : l.length = m) (h2 : a + 2 < m) (hn : leV ((l.drop a).take 2) = 0) : piecesF (m - a + 1) (l.drop a) out = ([], 3) := by
 rw [piecesF, hn, if_neg (by rw [List.length_drop]; omega), if_neg (by rw [List.length_drop]; omega), if_pos rfl, if_pos (by rw [List.length_drop]; omega)]
theorem piecesF_done {m : Nat} {l out : List UInt8} {a : Nat} (hl : l.length = m) (h2 : a + 2 = m) (hn : leV ((l.drop a).take 2) = 0) : piecesF (m - a + 1) (l.drop a) out = (out, 0) := by
 rw [piecesF, hn, if_neg (by rw [List.length_drop]; omega), if_neg (by rw [List.length_drop]; omega), if_pos rfl, if_neg (by rw [List.length_drop]; omega)]
theorem leV2 {l : List UInt8} {a : Nat} (h : a + 2 ≤ l.length) : leV ((l.drop a).take 2) = l[a].toNat + 256 * l[a + 1].toNat := by
 rw [List.drop_eq_getElem_cons (by omega), List.take_succ_cons, List.drop_eq_getElem_cons (by omega), List.take_succ_cons]
 simp [leV]
end Go.Bn
end

section
set_option linter.unusedVariables false
set_option linter.unusedSimpArgs false
namespace Go.Bn
abbrev Mv := Nat → List UInt8 → Nat × List UInt8 × Bool × Nat
structure MvOk (mv : Mv) (lim : Nat) (I : Nat → List UInt8 → Prop) : Prop where
  pre : ∀ a out, I a out → ∃ x, (mv a out).2.1 = out ++ x
  grow : ∀ a out, I a out → (mv a out).2.2.1 = false → out.length < (mv a out).2.1.length ∧ (mv a out).2.2.2 = 0 ∧ I (mv a out).1 (mv a out).2.1
  here : ∀ a out, I a out → out.length ≤ lim
  le : ∀ a out, I a out → (mv a out).2.1.length ≤ lim
inductive Giv (mv : Mv) : Nat → List UInt8 → List UInt8 → Nat → Prop
  | over {a : Nat} {out : List UInt8} (h : (mv a out).2.2.1 = true) : Giv mv a out (mv a out).2.1 (mv a out).2.2.2
  | more {a : Nat} {out gB : List UInt8} {gE : Nat} (h : (mv a out).2.2.1 = false) (g : Giv mv (mv a out).1 (mv a out).2.1 gB gE) : Giv mv a out gB gE
theorem Giv.all {mv : Mv} {lim : Nat} {I : Nat → List UInt8 → Prop} (ok : MvOk mv lim I) : ∀ (n a : Nat) (out : List UInt8), lim - out.length ≤ n → I a out → ∃ gB gE, Giv mv a out gB gE
 | n, a, out, hn, hI => by
  cases hh : (mv a out).2.2.1 with
  | true => exact ⟨_, _, .over hh⟩
  | false =>
   obtain ⟨h1, _, h2⟩ := ok.grow _ _ hI hh
   have h3 := ok.le _ _ hI
   cases n with
   | zero => omega
   | succ n =>
    obtain ⟨gB, gE, g⟩ := Giv.all ok n _ _ (by omega) h2
    exact ⟨gB, gE, .more hh g⟩
def copyT : Nat → Nat → List UInt8 → List UInt8
  | 0, _, out => out
  | n + 1, d, out => copyT n d (out ++ [out.getD (out.length - d) 0])
def expT (t : Tok) (out : List UInt8) : List UInt8 := if t.len = 0 then out ++ [UInt8.ofNat t.byte.toNat] else copyT t.len.toNat t.dist.toNat out
end Go.Bn
end

section
set_option linter.unusedVariables false
set_option linter.unusedSimpArgs false
namespace Go.Bn
def depthM (lv : Int) : Nat := if lv ≤ 0 then 1 else if lv = 1 then 4 else if lv = 2 then 32 else 256
theorem depthM_ok (lv : Int) : 1 ≤ depthM lv ∧ depthM lv ≤ 256 := by unfold depthM; split <;> (try split) <;> (try split) <;> omega
def tokM (b : List UInt8) (lv : Int) (a : Nat) : Tok :=
  if (bestM b a (depthM lv)).1 = 0 ∨ (2 ≤ lv ∧ (bestM b a (depthM lv)).1 < 258 ∧ (bestM b a (depthM lv)).1 < (bestM b (a + 1) (depthM lv)).1) then ⟨((b.getD a 0).toNat : Int), 0, 0⟩
  else ⟨0, ((bestM b a (depthM lv)).1 : Int), ((bestM b a (depthM lv)).2 : Int)⟩
def splitF (b : List UInt8) (lv : Int) : Nat → Nat → List Tok
  | 0, _ => []
  | f + 1, a => if a < b.length then tokM b lv a :: splitF b lv f (a + (tokM b lv a).size) else []
def splitL (b : List UInt8) (lv : Int) : List Tok := splitF b lv b.length 0
theorem copyT_take {b : List UInt8} {d : Nat} (hd : 1 ≤ d) : ∀ (n a : Nat), a + n ≤ b.length → d ≤ a → (∀ i, i < n → b[a + i]? = b[a + i - d]?) → copyT n d (b.take a) = b.take (a + n)
 | 0, _, _, _, _ => rfl
 | n + 1, a, hl, ha, h => by
  rw [copyT, List.length_take, Nat.min_eq_left (by omega)]
  have h0 := h 0 (by omega)
  rw [Nat.add_zero] at h0
  have hg : (b.take a).getD (a - d) 0 = b[a]'(by omega) := by
   rw [List.getD_eq_getElem?_getD, List.getElem?_take, if_pos (by omega), ← h0, List.getElem?_eq_getElem (by omega)]; rfl
  rw [hg, ← List.take_succ_eq_append_getElem (by omega), copyT_take hd n (a + 1) (by omega) (by omega) (fun i hi => by
   have := h (i + 1) (by omega)
   rw [show a + 1 + i = a + (i + 1) by omega]; exact this)]
  congr 1; omega
theorem tokM_ok {b : List UInt8} {lv : Int} {a : Nat} (ha : a < b.length) : (tokM b lv a).right ∧ (0 ≤ (tokM b lv a).byte ∧ (tokM b lv a).byte < 256) ∧ (tokM b lv a).dist ≤ a ∧ a + (tokM b lv a).size ≤ b.length ∧ expT (tokM b lv a) (b.take a) = b.take (a + (tokM b lv a).size) := by
 have hb := (b.getD a 0).toNat_lt
 have hok := bestM_ok b a (depthM lv)
 unfold tokM
 split
 ·refine ⟨by unfold Tok.right; rw [if_pos rfl], ⟨by simp only; omega, by simp only; omega⟩, by simp only; omega, ?_, ?_⟩
  ·unfold Tok.size; simp only; omega
  ·unfold expT Tok.size
   rw [if_pos rfl]
   simp only [Int.toNat_natCast]
   rw [show max 1 (Int.toNat 0) = 1 from rfl, List.take_succ_eq_append_getElem ha, getD_at ha]
   congr 2
   exact UInt8.ofNat_toNat
 ·rename_i hn
  obtain ⟨M, hM⟩ : ∃ M, bestM b a (depthM lv) = M := ⟨_, rfl⟩
  rw [hM] at hok hn ⊢
  rcases hok with rfl | ⟨h3, he⟩
  ·exact absurd (.inl rfl) hn
  ·have hin := lenM_in (b := b) (a := a) (d := M.2) (by omega)
   have hle := lenM_le b a M.2
   have hf := lenM_fit b a M.2
   refine ⟨?_, ⟨by simp only; omega, by simp only; omega⟩, by simp only; omega, ?_, ?_⟩
   ·unfold Tok.right
    simp only
    rw [if_neg (by omega)]
    refine ⟨trivial, by omega, by omega, by omega, by omega⟩
   ·unfold Tok.size; simp only; omega
   ·unfold expT Tok.size
    simp only
    rw [if_neg (by omega)]
    simp only [Int.toNat_natCast]
    rw [Nat.max_eq_right (by omega)]
    exact copyT_take hin.1 M.1 a (by omega) hin.2.2.1 (fun i hi => (lenM_get (by omega)).1)
def expL (ts : List Tok) (out : List UInt8) : List UInt8 := ts.foldl (fun o t => expT t o) out
theorem sizeT_cons (t : Tok) (ts : List Tok) : sizeT (t :: ts) = t.size + sizeT ts := by simp [sizeT]
theorem Tok.size_pos (t : Tok) : 1 ≤ t.size := by unfold Tok.size; omega
theorem splitF_ok {b : List UInt8} {lv : Int} : ∀ (f a : Nat), a ≤ b.length → b.length - a ≤ f → (∀ t ∈ splitF b lv f a, t.right ∧ 0 ≤ t.byte ∧ t.byte < 256) ∧ distOK a (splitF b lv f a) ∧ a + sizeT (splitF b lv f a) = b.length ∧ (splitF b lv f a).length ≤ b.length - a ∧ expL (splitF b lv f a) (b.take a) = b
 | 0, a, ha, hf => by
  have : a = b.length := by omega
  subst this
  rw [splitF]
  refine ⟨by simp, trivial, by simp [sizeT], by simp, by simp [expL]⟩
 | f + 1, a, ha, hf => by
  rw [splitF]
  split
  ·rename_i hlt
   obtain ⟨h1, h2, h3, h4, h5⟩ := tokM_ok (lv := lv) hlt
   have hp := Tok.size_pos (tokM b lv a)
   obtain ⟨i1, i2, i3, i4, i5⟩ := splitF_ok (lv := lv) f (a + (tokM b lv a).size) h4 (by omega)
   obtain ⟨T, hT⟩ : ∃ T, splitF b lv f (a + (tokM b lv a).size) = T := ⟨_, rfl⟩
   rw [hT] at i1 i2 i3 i4 i5 ⊢
   refine ⟨fun t ht => ?_, ⟨h3, i2⟩, ?_, ?_, ?_⟩
   ·rcases List.mem_cons.1 ht with rfl | ht
    ·exact ⟨h1, h2⟩
    ·exact i1 t ht
   ·rw [sizeT_cons]; omega
   ·rw [List.length_cons]; omega
   ·unfold expL at i5 ⊢
    rw [List.foldl_cons, h5]; exact i5
  ·have : a = b.length := by omega
   subst this
   refine ⟨by simp, trivial, by simp [sizeT], by simp, by simp [expL]⟩
theorem splitL_ok {b : List UInt8} (lv : Int) (hb : b.length ≤ 65536) : rightL (splitL b lv) ∧ (∀ t ∈ splitL b lv, 0 ≤ t.byte ∧ t.byte < 256) ∧ distOK 0 (splitL b lv) ∧ sizeT (splitL b lv) = b.length ∧ (splitL b lv).length ≤ b.length ∧ expL (splitL b lv) [] = b := by
 obtain ⟨h1, h2, h3, h4, h5⟩ := splitF_ok (b := b) (lv := lv) b.length 0 (Nat.zero_le _) (by omega)
 refine ⟨⟨by unfold splitL; omega, fun t ht => (h1 t ht).1⟩, fun t ht => (h1 t ht).2, h2, by unfold splitL; omega, by unfold splitL; omega, h5⟩
theorem splitF_fuel {b : List UInt8} {lv : Int} : ∀ (f g a : Nat), a ≤ b.length → b.length - a ≤ f → b.length - a ≤ g → splitF b lv f a = splitF b lv g a
 | 0, 0, _, _, _, _ => rfl
 | 0, g + 1, a, _, h, _ => by rw [splitF, splitF, if_neg (by omega)]
 | f + 1, 0, a, _, _, h => by rw [splitF, splitF, if_neg (by omega)]
 | f + 1, g + 1, a, ha, h, h' => by
  rw [splitF, splitF]
  split
  ·rename_i hlt
   obtain ⟨_, _, _, h4, _⟩ := tokM_ok (lv := lv) hlt
   have hp := Tok.size_pos (tokM b lv a)
   rw [splitF_fuel f g _ h4 (by omega) (by omega)]
  ·rfl
end Go.Bn
end
