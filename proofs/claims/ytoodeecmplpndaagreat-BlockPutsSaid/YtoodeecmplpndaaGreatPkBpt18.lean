/- Packed texts of a claim: what its theorem uses, joined. -/
import Derived.Test.YtoodeecmplpndaaGreatPkBpt10
import Derived.Test.YtoodeecmplpndaaGreatPkBpt15
import Derived.Test.YtoodeecmplpndaaGreatPkBpt16
import Derived.Test.YtoodeecmplpndaaGreatPkBpt17
section
set_option linter.unusedVariables false
set_option linter.unusedSimpArgs false
set_option maxHeartbeats 4000000
set_option maxRecDepth 20000
namespace Go.Bn
open Go Proofs
theorem part_steps (x k a y : Nat) : (if x = 0 ∧ 11 ≤ k then (18, min k 138) else if x = 0 ∧ 3 ≤ k then (17, k) else if 0 < a ∧ x = y ∧ 3 ≤ k then (16, min k 6) else (x, 1))
    = if x ≠ 0 ∧ 0 < a ∧ y = x ∧ 3 ≤ k then (16, min k 6)
      else if x = 0 ∧ 139 ≤ k then ((if x = 0 ∧ 11 ≤ k then (18, k) else if x = 0 ∧ 3 ≤ k then (17, k) else (x, 1)).1, 138)
      else if x = 0 ∧ 11 ≤ k then (18, k) else if x = 0 ∧ 3 ≤ k then (17, k) else (x, 1) := by
  by_cases c0 : x = 0
  · by_cases c1 : 11 ≤ k
    · by_cases c2 : 139 ≤ k
      · simp only [if_pos (And.intro c0 c1), if_pos (And.intro c0 c2)]
        rw [if_neg (fun h => h.1 c0), Nat.min_eq_right (by omega)]
      · simp only [if_pos (And.intro c0 c1)]
        rw [if_neg (fun h => h.1 c0), if_neg (fun h => c2 h.2), Nat.min_eq_left (by omega)]
    · have n1 : ¬ (x = 0 ∧ 11 ≤ k) := fun h => c1 h.2
      have n2 : ¬ (x = 0 ∧ 139 ≤ k) := fun h => by omega
      have n3 : ¬ (x ≠ 0 ∧ 0 < a ∧ y = x ∧ 3 ≤ k) := fun h => h.1 c0
      simp only [if_neg n1, if_neg n2, if_neg n3]
      by_cases c3 : 3 ≤ k
      · simp only [if_pos (And.intro c0 c3)]
      · rw [if_neg (fun h => c3 h.2), if_neg (fun h => c3 h.2.2), if_neg (fun h => c3 h.2)]
  · have n1 : ¬ (x = 0 ∧ 11 ≤ k) := fun h => c0 h.1
    have n2 : ¬ (x = 0 ∧ 139 ≤ k) := fun h => c0 h.1
    have n3 : ¬ (x = 0 ∧ 3 ≤ k) := fun h => c0 h.1
    simp only [if_neg n1, if_neg n2, if_neg n3]
    by_cases c2 : 0 < a ∧ x = y ∧ 3 ≤ k
    · rw [if_pos c2, if_pos ⟨c0, c2.1, c2.2.1.symm, c2.2.2⟩]
    · rw [if_neg c2, if_neg (fun h => c2 ⟨h.2.1, h.2.2.1.symm, h.2.2.2⟩)]
theorem parts_ref {n c : Nat} {A : Option Addr} {l : List Nat} {h0 : Heap} (hr : Rd h0 A (l.map nV)) (hl : l.length = n) (hn : n ≤ 1048576) :
    Ret Tryz.prog 84 [.slice A n c] h0 fun v h' => St h0.size h0 h' [row 130 2 v ((partsL l 0).flatMap pC2)] := by
  refine ret_of_X Tryz.func84 rfl rfl fun w0 hw0 => ?_
  simp only [argE, Nat.zero_add, Nat.reduceAdd]
  refine X_seq ?_
  refine X_reg ?_
  refine XR_a (op_assign rfl) rfl rfl ?_
  refine XR_nil ?_
  refine X_seq ?_
  refine X_reg ?_
  refine XR_a (op_assign rfl) rfl rfl ?_
  refine XR_nil ?_
  refine X_seq ?_
  refine X_reg ?_
  refine XR_a (op_assign rfl) rfl rfl ?_
  refine XR_nil ?_
  refine X_seq ?_
  refine X_block ?_
  have st := (St.start h0).nilrow 130 2
  refine X_loop (fun s => n - s.1) (fun s => [(0, .slice A n c), (3, s.2.1), (4, nV s.1)])
    (fun (s : Nat × Value × List (Nat × Nat)) hp => s.1 ≤ n ∧ s.2.2.length ≤ s.1 ∧ s.2.2 ++ partsL l s.1 = partsL l 0 ∧ St h0.size h0 hp [row 130 2 s.2.1 (s.2.2.flatMap pC2)])
    (0, _, []) (.cons rfl (.cons rfl (.cons rfl (.nil _)))) ⟨Nat.zero_le _, Nat.zero_le _, rfl, st⟩ ?_
  clear st
  rintro ⟨a, v, s⟩ hp ⟨ha, hsl, hs, st⟩
  simp only at ha hsl hs st ⊢
  refine X_seq ?_
  refine X_seq ?_
  refine X_reg ?_
  refine XR_a (op_move rfl) rfl rfl ?_
  refine XR_a (op_move rfl) rfl rfl ?_
  refine XR_a (op_len rfl rfl rfl) rfl rfl ?_
  refine XR_a (op_lss rfl rfl) rfl rfl ?_
  refine XR_nil ?_
  refine X_if rfl (fun h => ?_) (fun h => ?_)
  · refine X_skip ?_
    refine X_block ?_
    refine X_seq ?_
    refine X_reg ?_
    refine XR_a (op_assign rfl) rfl rfl ?_
    refine XR_nil ?_
    refine X_seq ?_
    refine X_block ?_
    have han : a < n := by omega
    have hrl := runAt_le l a
    have hrp := runAt_pos (l := l) (at_ := a) (by omega)
    have hpm := partAt_many (l := l) (at_ := a) (by omega)
    rw [partsL_cons (by omega)] at hs
    obtain ⟨g, o, rfl, hc⟩ := hr.at_ (by rw [List.length_map]; omega)
    have hci : ∀ {hp : Heap}, Ext h0 hp → ∀ i, i < n → cellH hp ⟨g, o + i, none⟩ = some (nV (l.getD i 0)) := fun hx i hi => cellH_ext (a := ⟨g, o + i, none⟩) hx (hc i _ (by rw [List.getElem?_map, List.getElem?_eq_getElem (by omega), getD_get (by omega)]; rfl))
    have h01 : ∀ i, i < 1 → l.getD (a + i) 0 = l.getD a 0 := fun i hi => by
      have h0 : i = 0 := by omega
      subst h0
      rfl
    refine X_loop (fun k => n - k) (fun k => [(0, .slice (some ⟨g, o, none⟩) n c), (3, v), (4, nV a), (5, nV k)])
      (fun (k : Nat) hp' => hp' = hp ∧ 1 ≤ k ∧ a + k ≤ n ∧ ∀ i, i < k → l.getD (a + i) 0 = l.getD a 0)
      1 (.cons rfl (.cons rfl (.cons rfl (.cons rfl (.nil _))))) ⟨rfl, Nat.le_refl _, by omega, h01⟩ ?_
    rintro k hp2 ⟨rfl, hk1, hk, hall⟩
    have hfin : (n ≤ a + k ∨ l.getD (a + k) 0 ≠ l.getD a 0) → runAt l a = k := fun h => by
      unfold runAt
      refine eqRun_is (by rw [List.length_drop]; omega) (fun i hi => by rw [getD_drop]; exact hall i hi) ?_
      rw [List.length_drop, getD_drop]
      rcases h with h | h
      · left; omega
      · exact .inr h
    refine X_seq ?_
    refine X_seq ?_
    refine X_draw byKind (by kernel_rfl) (by kernel_rfl) ?_
    refine XR_a (op_move rfl) rfl rfl ?_
    refine XR_a (op_move rfl) rfl rfl ?_
    first | refine XR_a (op_addN rfl rfl (by simp only [inK]; omega)) rfl rfl ?_ | refine XR_a (op_addI rfl rfl (by simp only [inK]; omega)) rfl rfl ?_ | refine XR_a (op_add rfl rfl) rfl rfl ?_
    refine XR_a (op_move rfl) rfl rfl ?_
    refine XR_a (op_len rfl rfl rfl) rfl rfl ?_
    refine XR_a (op_lss rfl rfl) rfl rfl ?_
    refine XR_a (op_move rfl) rfl rfl ?_
    refine XR_if 17 rfl (fun h => ?_) (fun h => ?_)
    · have h17 := h
      refine XR_a (op_move rfl) rfl rfl ?_
      refine XR_a (op_move rfl) rfl rfl ?_
      refine XR_a (op_move rfl) rfl rfl ?_
      first | refine XR_a (op_addN rfl rfl (by simp only [inK]; omega)) rfl rfl ?_ | refine XR_a (op_addI rfl rfl (by simp only [inK]; omega)) rfl rfl ?_ | refine XR_a (op_add rfl rfl) rfl rfl ?_
      refine XR_a (op_index1 (i := a + k) rfl rfl rfl (by omega)) rfl rfl ?_
      refine XR_a (op_ld (hci st.low (a + k) (by omega)) rfl rfl rfl) rfl rfl ?_
      refine XR_a (op_move rfl) rfl rfl ?_
      refine XR_a (op_move rfl) rfl rfl ?_
      first | refine XR_a (op_index1 rfl rfl rfl (by omega)) rfl rfl ?_ | refine XR_a (op_index rfl rfl rfl (by omega)) rfl rfl ?_
      refine XR_a (op_ld (hci st.low a (by omega)) rfl rfl rfl) rfl rfl ?_
      refine XR_a (op_eql rfl rfl) rfl rfl ?_
      refine XR_a (op_pick_t rfl rfl) rfl rfl ?_
      refine XR_nil ?_
      refine X_if rfl (fun h => ?_) (fun h => ?_)
      · refine X_skip ?_
        refine X_block ?_
        refine X_reg ?_
        refine XR_a (op_move rfl) rfl rfl ?_
        first | refine XR_a (op_addN (n := 1) rfl rfl (by simp only [inK]; omega)) rfl rfl ?_ | refine XR_a (op_addI rfl rfl (by simp only [inK]; omega)) rfl rfl ?_ | refine XR_a (op_add rfl rfl) rfl rfl ?_
        refine XR_a (op_assign rfl) rfl rfl ?_
        refine XR_nil ?_
        refine X_blk ?_
        exact X_again (k + 1) (.cons rfl (.cons rfl (.cons rfl (.cons rfl (.nil _))))) ⟨rfl, by omega, by omega, fun i (hi : i < k + 1) => by
          rcases Nat.lt_or_ge i k with h9 | h9
          · exact hall i h9
          · obtain rfl : i = k := by omega
            omega⟩ (by omega)
      · refine X_exit rfl ?_
        refine X_seq ?_
        have hrk : runAt l a = k := hfin (.inr (by omega))
        refine X_reg ?_
        refine XR_a (op_move rfl) rfl rfl ?_
        refine XR_a (op_move rfl) rfl rfl ?_
        first | refine XR_a (op_index1 rfl rfl rfl (by omega)) rfl rfl ?_ | refine XR_a (op_index rfl rfl rfl (by omega)) rfl rfl ?_
        refine XR_a (op_ld (hci st.low a (by omega)) rfl rfl rfl) rfl rfl ?_
        refine XR_a (op_build (ps := [(0, nV (l.getD a 0)), (1, nV 1)]) (cs := #[nV (l.getD a 0), nV 1]) rfl rfl) rfl rfl ?_
        refine XR_wa (opl_new rfl) rfl rfl rfl ?_
        rintro _ hp ⟨p6, rfl, hnew⟩
        have st := st.new hnew
        refine XR_wn (opl_store_whole (us := pC2 (l.getD a 0, 1)) st 0 rfl rfl rfl rfl rfl (one_pC2 _) rfl) rfl rfl fun _ hp st => ?_
        simp only [List.set_cons_zero] at st
        refine XR_nil ?_
        refine X_seq ?_
        obtain ⟨x, hx⟩ : ∃ x, l.getD a 0 = x := ⟨_, rfl⟩
        obtain ⟨q1, hq1⟩ : ∃ q : Nat × Nat, q = if x = 0 ∧ 3 ≤ k then (17, k) else (x, 1) := ⟨_, rfl⟩
        obtain ⟨q2, hq2⟩ : ∃ q : Nat × Nat, q = if x = 0 ∧ 11 ≤ k then (18, k) else q1 := ⟨_, rfl⟩
        obtain ⟨q3, hq3⟩ : ∃ q : Nat × Nat, q = if x = 0 ∧ 139 ≤ k then (q2.1, 138) else q2 := ⟨_, rfl⟩
        obtain ⟨q4, hq4⟩ : ∃ q : Nat × Nat, q = if x ≠ 0 ∧ 0 < a ∧ l.getD (a - 1) 0 = x ∧ 3 ≤ k then (16, min k 6) else q3 := ⟨_, rfl⟩
        have hP4 : partAt l a = q4 := by
          unfold partAt
          rw [hrk, hx, hq4, hq3, hq2, hq1]
          exact part_steps x k a _
        rw [hx] at st
        refine X_cut (fun (_ : Unit) => [(0, .slice (some ⟨g, o, none⟩) n c), (3, v), (4, nV a), (5, nV k), (6, .pointer (some ⟨p6, 0, none⟩))])
          (fun (_ : Unit) hp' => St h0.size h0 hp' [pt p6 130 (pC2 q1), row 130 2 v (s.flatMap pC2)]) ?_ ?_
        · refine X_seq ?_
          refine X_reg ?_
          refine XR_a (op_move rfl) rfl rfl ?_
          refine XR_a (op_move rfl) rfl rfl ?_
          first | refine XR_a (op_index1 rfl rfl rfl (by omega)) rfl rfl ?_ | refine XR_a (op_index rfl rfl rfl (by omega)) rfl rfl ?_
          refine XR_a (op_ld (hci st.low a (by omega)) rfl rfl rfl) rfl rfl ?_
          rw [hx]
          refine XR_a (op_eql rfl rfl) rfl rfl ?_
          refine XR_a (op_move rfl) rfl rfl ?_
          refine XR_if 42 rfl (fun h => ?_) (fun h => ?_)
          · have h42 := h
            refine XR_a (op_move rfl) rfl rfl ?_
            refine XR_a (op_gtr rfl rfl) rfl rfl ?_
            refine XR_a (op_pick_t rfl rfl) rfl rfl ?_
            refine XR_nil ?_
            refine X_if rfl (fun h => ?_) (fun h => ?_)
            · refine X_reg ?_
              refine XR_a (op_move rfl) rfl rfl ?_
              refine XR_a (op_build (ps := [(0, nV 17), (1, nV k)]) (cs := #[nV 17, nV k]) rfl rfl) rfl rfl ?_
              refine XR_wn (opl_store_whole (us := pC2 (17, k)) st 0 rfl rfl rfl rfl rfl (one_pC2 _) rfl) rfl rfl fun _ hp st => ?_
              simp only [List.set_cons_zero] at st
              refine XR_nil ?_
              exact X_meet () (.cons rfl (.cons rfl (.cons rfl (.cons rfl (.cons rfl (.nil _)))))) (by rw [hq1, if_pos (by omega)]; exact st)
            · refine X_skip ?_
              exact X_meet () (.cons rfl (.cons rfl (.cons rfl (.cons rfl (.cons rfl (.nil _)))))) (by rw [hq1, if_neg (by omega)]; exact st)
          · have h42 := h
            refine XR_no rfl rfl ?_
            refine XR_no rfl rfl ?_
            refine XR_a (op_pick_f rfl rfl) rfl rfl ?_
            refine XR_nil ?_
            refine X_else rfl ?_
            refine X_skip ?_
            exact X_meet () (.cons rfl (.cons rfl (.cons rfl (.cons rfl (.cons rfl (.nil _)))))) (by rw [hq1, if_neg (by omega)]; exact st)
        rintro ⟨⟩ hp5 st
        refine X_seq ?_
        refine X_cut (fun (_ : Unit) => [(0, .slice (some ⟨g, o, none⟩) n c), (3, v), (4, nV a), (5, nV k), (6, .pointer (some ⟨p6, 0, none⟩))])
          (fun (_ : Unit) hp' => St h0.size h0 hp' [pt p6 130 (pC2 q2), row 130 2 v (s.flatMap pC2)]) ?_ ?_
        · refine X_seq ?_
          refine X_reg ?_
          refine XR_a (op_move rfl) rfl rfl ?_
          refine XR_a (op_move rfl) rfl rfl ?_
          first | refine XR_a (op_index1 rfl rfl rfl (by omega)) rfl rfl ?_ | refine XR_a (op_index rfl rfl rfl (by omega)) rfl rfl ?_
          refine XR_a (op_ld (hci st.low a (by omega)) rfl rfl rfl) rfl rfl ?_
          rw [hx]
          refine XR_a (op_eql rfl rfl) rfl rfl ?_
          refine XR_a (op_move rfl) rfl rfl ?_
          refine XR_if 53 rfl (fun h => ?_) (fun h => ?_)
          · have h53 := h
            refine XR_a (op_move rfl) rfl rfl ?_
            refine XR_a (op_gtr rfl rfl) rfl rfl ?_
            refine XR_a (op_pick_t rfl rfl) rfl rfl ?_
            refine XR_nil ?_
            refine X_if rfl (fun h => ?_) (fun h => ?_)
            · refine X_reg ?_
              refine XR_a (op_move rfl) rfl rfl ?_
              refine XR_a (op_build (ps := [(0, nV 18), (1, nV k)]) (cs := #[nV 18, nV k]) rfl rfl) rfl rfl ?_
              refine XR_wn (opl_store_whole (us := pC2 (18, k)) st 0 rfl rfl rfl rfl rfl (one_pC2 _) rfl) rfl rfl fun _ hp st => ?_
              simp only [List.set_cons_zero] at st
              refine XR_nil ?_
              exact X_meet () (.cons rfl (.cons rfl (.cons rfl (.cons rfl (.cons rfl (.nil _)))))) (by rw [hq2, if_pos (by omega)]; exact st)
            · refine X_skip ?_
              exact X_meet () (.cons rfl (.cons rfl (.cons rfl (.cons rfl (.cons rfl (.nil _)))))) (by rw [hq2, if_neg (by omega)]; exact st)
          · have h53 := h
            refine XR_no rfl rfl ?_
            refine XR_no rfl rfl ?_
            refine XR_a (op_pick_f rfl rfl) rfl rfl ?_
            refine XR_nil ?_
            refine X_else rfl ?_
            refine X_skip ?_
            exact X_meet () (.cons rfl (.cons rfl (.cons rfl (.cons rfl (.cons rfl (.nil _)))))) (by rw [hq2, if_neg (by omega)]; exact st)
        rintro ⟨⟩ hp6 st
        refine X_seq ?_
        refine X_cut (fun (_ : Unit) => [(0, .slice (some ⟨g, o, none⟩) n c), (3, v), (4, nV a), (5, nV k), (6, .pointer (some ⟨p6, 0, none⟩))])
          (fun (_ : Unit) hp' => St h0.size h0 hp' [pt p6 130 (pC2 q3), row 130 2 v (s.flatMap pC2)]) ?_ ?_
        · refine X_seq ?_
          refine X_reg ?_
          refine XR_a (op_move rfl) rfl rfl ?_
          refine XR_a (op_gtr rfl rfl) rfl rfl ?_
          refine XR_a (op_move rfl) rfl rfl ?_
          refine XR_if 61 rfl (fun h => ?_) (fun h => ?_)
          · have h61 := h
            refine XR_a (op_move rfl) rfl rfl ?_
            refine XR_a (op_move rfl) rfl rfl ?_
            first | refine XR_a (op_index1 rfl rfl rfl (by omega)) rfl rfl ?_ | refine XR_a (op_index rfl rfl rfl (by omega)) rfl rfl ?_
            refine XR_a (op_ld (hci st.low a (by omega)) rfl rfl rfl) rfl rfl ?_
            rw [hx]
            refine XR_a (op_eql rfl rfl) rfl rfl ?_
            refine XR_a (op_pick_t rfl rfl) rfl rfl ?_
            refine XR_nil ?_
            refine X_if rfl (fun h => ?_) (fun h => ?_)
            · refine X_reg ?_
              first | refine XR_a (op_field0 rfl rfl) rfl rfl ?_ | refine XR_a (op_fieldn rfl rfl) rfl rfl ?_
              refine XR_wn (opl_store_pt (v := nV 138) st 0 rfl rfl rfl rfl rfl rfl) rfl rfl fun _ hp st => ?_
              simp only [List.set_cons_zero] at st
              refine XR_nil ?_
              exact X_meet () (.cons rfl (.cons rfl (.cons rfl (.cons rfl (.cons rfl (.nil _)))))) (by rw [hq3, if_pos (by omega)]; exact st)
            · refine X_skip ?_
              exact X_meet () (.cons rfl (.cons rfl (.cons rfl (.cons rfl (.cons rfl (.nil _)))))) (by rw [hq3, if_neg (by omega)]; exact st)
          · have h61 := h
            refine XR_no rfl rfl ?_
            refine XR_no rfl rfl ?_
            refine XR_no rfl rfl ?_
            refine XR_no rfl rfl ?_
            refine XR_no rfl rfl ?_
            refine XR_a (op_pick_f rfl rfl) rfl rfl ?_
            refine XR_nil ?_
            refine X_else rfl ?_
            refine X_skip ?_
            exact X_meet () (.cons rfl (.cons rfl (.cons rfl (.cons rfl (.cons rfl (.nil _)))))) (by rw [hq3, if_neg (by omega)]; exact st)
        rintro ⟨⟩ hp7 st
        refine X_seq ?_
        refine X_cut (fun (_ : Unit) => [(0, .slice (some ⟨g, o, none⟩) n c), (3, v), (4, nV a), (5, nV k), (6, .pointer (some ⟨p6, 0, none⟩))])
          (fun (_ : Unit) hp' => St h0.size h0 hp' [pt p6 130 (pC2 q4), row 130 2 v (s.flatMap pC2)]) ?_ ?_
        · refine X_seq ?_
          refine X_draw byKind (by kernel_rfl) (by kernel_rfl) ?_
          refine XR_a (op_move rfl) rfl rfl ?_
          refine XR_a (op_move rfl) rfl rfl ?_
          first | refine XR_a (op_index1 rfl rfl rfl (by omega)) rfl rfl ?_ | refine XR_a (op_index rfl rfl rfl (by omega)) rfl rfl ?_
          refine XR_a (op_ld (hci st.low a (by omega)) rfl rfl rfl) rfl rfl ?_
          rw [hx]
          refine XR_a (op_neq rfl rfl) rfl rfl ?_
          refine XR_a (op_move rfl) rfl rfl ?_
          refine XR_if 74 rfl (fun h => ?_) (fun h => ?_)
          · have h74 := h
            refine XR_a (op_move rfl) rfl rfl ?_
            refine XR_a (op_gtr rfl rfl) rfl rfl ?_
            refine XR_a (op_pick_t rfl rfl) rfl rfl ?_
            refine XR_a (op_move rfl) rfl rfl ?_
            refine XR_if 78 rfl (fun h => ?_) (fun h => ?_)
            · have h78 := h
              refine XR_a (op_move rfl) rfl rfl ?_
              refine XR_a (op_move rfl) rfl rfl ?_
              first | refine XR_a (op_subN (n := 1) rfl rfl (by omega) (by simp only [inK]; omega)) rfl rfl ?_ | refine XR_a (op_subI rfl rfl (by simp only [inK]; omega)) rfl rfl ?_ | refine XR_a (op_sub rfl rfl) rfl rfl ?_
              refine XR_a (op_index1 (i := a - 1) rfl rfl rfl (by omega)) rfl rfl ?_
              refine XR_a (op_ld (hci st.low (a - 1) (by omega)) rfl rfl rfl) rfl rfl ?_
              refine XR_a (op_move rfl) rfl rfl ?_
              refine XR_a (op_move rfl) rfl rfl ?_
              first | refine XR_a (op_index1 rfl rfl rfl (by omega)) rfl rfl ?_ | refine XR_a (op_index rfl rfl rfl (by omega)) rfl rfl ?_
              refine XR_a (op_ld (hci st.low a (by omega)) rfl rfl rfl) rfl rfl ?_
              rw [hx]
              refine XR_a (op_eql rfl rfl) rfl rfl ?_
              refine XR_a (op_pick_t rfl rfl) rfl rfl ?_
              refine XR_a (op_move rfl) rfl rfl ?_
              refine XR_if 90 rfl (fun h => ?_) (fun h => ?_)
              · have h90 := h
                refine XR_a (op_move rfl) rfl rfl ?_
                refine XR_a (op_gtr rfl rfl) rfl rfl ?_
                refine XR_a (op_pick_t rfl rfl) rfl rfl ?_
                refine XR_nil ?_
                refine X_if rfl (fun h => ?_) (fun h => ?_)
                · have h6 := h
                  refine X_seq ?_
                  refine X_reg ?_
                  refine XR_a (op_move rfl) rfl rfl ?_
                  refine XR_a (op_build (ps := [(0, nV 16), (1, nV k)]) (cs := #[nV 16, nV k]) rfl rfl) rfl rfl ?_
                  refine XR_wn (opl_store_whole (us := pC2 (16, k)) st 0 rfl rfl rfl rfl rfl (one_pC2 _) rfl) rfl rfl fun _ hp st => ?_
                  simp only [List.set_cons_zero] at st
                  refine XR_nil ?_
                  refine X_seq ?_
                  refine X_reg ?_
                  refine XR_a (op_move rfl) rfl rfl ?_
                  refine XR_a (op_gtr rfl rfl) rfl rfl ?_
                  refine XR_nil ?_
                  refine X_if rfl (fun h => ?_) (fun h => ?_)
                  · refine X_reg ?_
                    first | refine XR_a (op_field0 rfl rfl) rfl rfl ?_ | refine XR_a (op_fieldn rfl rfl) rfl rfl ?_
                    refine XR_wn (opl_store_pt (v := nV 6) st 0 rfl rfl rfl rfl rfl rfl) rfl rfl fun _ hp st => ?_
                    simp only [List.set_cons_zero] at st
                    refine XR_nil ?_
                    exact X_meet () (.cons rfl (.cons rfl (.cons rfl (.cons rfl (.cons rfl (.nil _)))))) (by rw [hq4, if_pos (by omega), Nat.min_eq_right (by omega)]; exact st)
                  · refine X_skip ?_
                    exact X_meet () (.cons rfl (.cons rfl (.cons rfl (.cons rfl (.cons rfl (.nil _)))))) (by rw [hq4, if_pos (by omega), Nat.min_eq_left (by omega)]; exact st)
                · have h6 := h
                  refine X_skip ?_
                  exact X_meet () (.cons rfl (.cons rfl (.cons rfl (.cons rfl (.cons rfl (.nil _)))))) (by rw [hq4, if_neg (by omega)]; exact st)
              · have h90 := h
                refine XR_no rfl rfl ?_
                refine XR_no rfl rfl ?_
                refine XR_a (op_pick_f rfl rfl) rfl rfl ?_
                refine XR_nil ?_
                refine X_else rfl ?_
                refine X_skip ?_
                exact X_meet () (.cons rfl (.cons rfl (.cons rfl (.cons rfl (.cons rfl (.nil _)))))) (by rw [hq4, if_neg (by omega)]; exact st)
            · have h78 := h
              refine XR_no rfl rfl ?_
              refine XR_no rfl rfl ?_
              refine XR_no rfl rfl ?_
              refine XR_no rfl rfl ?_
              refine XR_no rfl rfl ?_
              refine XR_no rfl rfl ?_
              refine XR_no rfl rfl ?_
              refine XR_no rfl rfl ?_
              refine XR_no rfl rfl ?_
              refine XR_no rfl rfl ?_
              refine XR_a (op_pick_f rfl rfl) rfl rfl ?_
              refine XR_a (op_move rfl) rfl rfl ?_
              refine XR_no rfl rfl ?_
              refine XR_no rfl rfl ?_
              refine XR_a (op_pick_f rfl rfl) rfl rfl ?_
              refine XR_nil ?_
              refine X_else rfl ?_
              refine X_skip ?_
              exact X_meet () (.cons rfl (.cons rfl (.cons rfl (.cons rfl (.cons rfl (.nil _)))))) (by rw [hq4, if_neg (by omega)]; exact st)
          · have h74 := h
            refine XR_no rfl rfl ?_
            refine XR_no rfl rfl ?_
            refine XR_a (op_pick_f rfl rfl) rfl rfl ?_
            refine XR_a (op_move rfl) rfl rfl ?_
            refine XR_no rfl rfl ?_
            refine XR_no rfl rfl ?_
            refine XR_no rfl rfl ?_
            refine XR_no rfl rfl ?_
            refine XR_no rfl rfl ?_
            refine XR_no rfl rfl ?_
            refine XR_no rfl rfl ?_
            refine XR_no rfl rfl ?_
            refine XR_no rfl rfl ?_
            refine XR_no rfl rfl ?_
            refine XR_a (op_pick_f rfl rfl) rfl rfl ?_
            refine XR_a (op_move rfl) rfl rfl ?_
            refine XR_no rfl rfl ?_
            refine XR_no rfl rfl ?_
            refine XR_a (op_pick_f rfl rfl) rfl rfl ?_
            refine XR_nil ?_
            refine X_else rfl ?_
            refine X_skip ?_
            exact X_meet () (.cons rfl (.cons rfl (.cons rfl (.cons rfl (.cons rfl (.nil _)))))) (by rw [hq4, if_neg (by omega)]; exact st)
        rintro ⟨⟩ hp8 st
        rw [hP4] at hs hpm
        refine X_seq ?_
        refine X_reg ?_
        refine XR_a (op_move rfl) rfl rfl ?_
        refine XR_a (op_ldA (vs := pC2 q4) (st.cells 0 rfl) rfl rfl rfl rfl) rfl rfl ?_
        refine XR_wa (opl_varA (us := pC2 q4) rfl rfl rfl rfl (by kernel_rfl)) rfl rfl rfl ?_
        rintro _ hp ⟨A9, rfl, hx9, hrd⟩
        replace st := st.ext hx9
        refine XR_wa (opl_append st 1 rfl (hrd) (rfl) (one_pC2 q4) (by rw [flat_length _ 2 (fun _ => rfl)]; simp [pC2]; omega) rfl rfl rfl rfl rfl rfl rfl) rfl rfl rfl fun v hp st => ?_
        simp only [List.set_cons_zero, List.set_cons_succ] at st
        have e2 : s.flatMap pC2 ++ pC2 q4 = (s ++ [q4]).flatMap pC2 := by rw [List.flatMap_append]; simp
        rw [e2] at st
        refine XR_a (op_assign rfl) rfl rfl ?_
        refine XR_nil ?_
        refine X_reg ?_
        refine XR_a (op_move rfl) rfl rfl ?_
        first | refine XR_a (op_field0 rfl rfl) rfl rfl ?_ | refine XR_a (op_fieldn rfl rfl) rfl rfl ?_
        refine XR_a (op_ld (st.cell 0 (i := 1) rfl rfl) rfl rfl rfl) rfl rfl ?_
        first | refine XR_a (op_addN rfl rfl (by simp only [inK]; omega)) rfl rfl ?_ | refine XR_a (op_addI rfl rfl (by simp only [inK]; omega)) rfl rfl ?_ | refine XR_a (op_add rfl rfl) rfl rfl ?_
        refine XR_a (op_assign rfl) rfl rfl ?_
        refine XR_nil ?_
        refine X_blk ?_
        exact X_again (a + q4.2, v, s ++ [q4]) (.cons rfl (.cons rfl (.cons rfl (.nil _)))) ⟨by simp only; omega, by simp only [List.length_append, List.length_cons, List.length_nil]; omega, by simp only; rw [List.append_assoc]; exact hs, st.tail⟩ (by simp only; omega)
    · have h17 := h
      refine XR_no rfl rfl ?_
      refine XR_no rfl rfl ?_
      refine XR_no rfl rfl ?_
      refine XR_no rfl rfl ?_
      refine XR_no rfl rfl ?_
      refine XR_no rfl rfl ?_
      refine XR_no rfl rfl ?_
      refine XR_no rfl rfl ?_
      refine XR_no rfl rfl ?_
      refine XR_no rfl rfl ?_
      refine XR_no rfl rfl ?_
      refine XR_a (op_pick_f rfl rfl) rfl rfl ?_
      refine XR_nil ?_
      refine X_else rfl ?_
      refine X_exit rfl ?_
      refine X_seq ?_
      have hrk : runAt l a = k := hfin (.inl (by omega))
      refine X_reg ?_
      refine XR_a (op_move rfl) rfl rfl ?_
      refine XR_a (op_move rfl) rfl rfl ?_
      first | refine XR_a (op_index1 rfl rfl rfl (by omega)) rfl rfl ?_ | refine XR_a (op_index rfl rfl rfl (by omega)) rfl rfl ?_
      refine XR_a (op_ld (hci st.low a (by omega)) rfl rfl rfl) rfl rfl ?_
      refine XR_a (op_build (ps := [(0, nV (l.getD a 0)), (1, nV 1)]) (cs := #[nV (l.getD a 0), nV 1]) rfl rfl) rfl rfl ?_
      refine XR_wa (opl_new rfl) rfl rfl rfl ?_
      rintro _ hp ⟨p6, rfl, hnew⟩
      have st := st.new hnew
      refine XR_wn (opl_store_whole (us := pC2 (l.getD a 0, 1)) st 0 rfl rfl rfl rfl rfl (one_pC2 _) rfl) rfl rfl fun _ hp st => ?_
      simp only [List.set_cons_zero] at st
      refine XR_nil ?_
      refine X_seq ?_
      obtain ⟨x, hx⟩ : ∃ x, l.getD a 0 = x := ⟨_, rfl⟩
      obtain ⟨q1, hq1⟩ : ∃ q : Nat × Nat, q = if x = 0 ∧ 3 ≤ k then (17, k) else (x, 1) := ⟨_, rfl⟩
      obtain ⟨q2, hq2⟩ : ∃ q : Nat × Nat, q = if x = 0 ∧ 11 ≤ k then (18, k) else q1 := ⟨_, rfl⟩
      obtain ⟨q3, hq3⟩ : ∃ q : Nat × Nat, q = if x = 0 ∧ 139 ≤ k then (q2.1, 138) else q2 := ⟨_, rfl⟩
      obtain ⟨q4, hq4⟩ : ∃ q : Nat × Nat, q = if x ≠ 0 ∧ 0 < a ∧ l.getD (a - 1) 0 = x ∧ 3 ≤ k then (16, min k 6) else q3 := ⟨_, rfl⟩
      have hP4 : partAt l a = q4 := by
        unfold partAt
        rw [hrk, hx, hq4, hq3, hq2, hq1]
        exact part_steps x k a _
      rw [hx] at st
      refine X_cut (fun (_ : Unit) => [(0, .slice (some ⟨g, o, none⟩) n c), (3, v), (4, nV a), (5, nV k), (6, .pointer (some ⟨p6, 0, none⟩))])
        (fun (_ : Unit) hp' => St h0.size h0 hp' [pt p6 130 (pC2 q1), row 130 2 v (s.flatMap pC2)]) ?_ ?_
      · refine X_seq ?_
        refine X_reg ?_
        refine XR_a (op_move rfl) rfl rfl ?_
        refine XR_a (op_move rfl) rfl rfl ?_
        first | refine XR_a (op_index1 rfl rfl rfl (by omega)) rfl rfl ?_ | refine XR_a (op_index rfl rfl rfl (by omega)) rfl rfl ?_
        refine XR_a (op_ld (hci st.low a (by omega)) rfl rfl rfl) rfl rfl ?_
        rw [hx]
        refine XR_a (op_eql rfl rfl) rfl rfl ?_
        refine XR_a (op_move rfl) rfl rfl ?_
        refine XR_if 42 rfl (fun h => ?_) (fun h => ?_)
        · have h42 := h
          refine XR_a (op_move rfl) rfl rfl ?_
          refine XR_a (op_gtr rfl rfl) rfl rfl ?_
          refine XR_a (op_pick_t rfl rfl) rfl rfl ?_
          refine XR_nil ?_
          refine X_if rfl (fun h => ?_) (fun h => ?_)
          · refine X_reg ?_
            refine XR_a (op_move rfl) rfl rfl ?_
            refine XR_a (op_build (ps := [(0, nV 17), (1, nV k)]) (cs := #[nV 17, nV k]) rfl rfl) rfl rfl ?_
            refine XR_wn (opl_store_whole (us := pC2 (17, k)) st 0 rfl rfl rfl rfl rfl (one_pC2 _) rfl) rfl rfl fun _ hp st => ?_
            simp only [List.set_cons_zero] at st
            refine XR_nil ?_
            exact X_meet () (.cons rfl (.cons rfl (.cons rfl (.cons rfl (.cons rfl (.nil _)))))) (by rw [hq1, if_pos (by omega)]; exact st)
          · refine X_skip ?_
            exact X_meet () (.cons rfl (.cons rfl (.cons rfl (.cons rfl (.cons rfl (.nil _)))))) (by rw [hq1, if_neg (by omega)]; exact st)
        · have h42 := h
          refine XR_no rfl rfl ?_
          refine XR_no rfl rfl ?_
          refine XR_a (op_pick_f rfl rfl) rfl rfl ?_
          refine XR_nil ?_
          refine X_else rfl ?_
          refine X_skip ?_
          exact X_meet () (.cons rfl (.cons rfl (.cons rfl (.cons rfl (.cons rfl (.nil _)))))) (by rw [hq1, if_neg (by omega)]; exact st)
      rintro ⟨⟩ hp5 st
      refine X_seq ?_
      refine X_cut (fun (_ : Unit) => [(0, .slice (some ⟨g, o, none⟩) n c), (3, v), (4, nV a), (5, nV k), (6, .pointer (some ⟨p6, 0, none⟩))])
        (fun (_ : Unit) hp' => St h0.size h0 hp' [pt p6 130 (pC2 q2), row 130 2 v (s.flatMap pC2)]) ?_ ?_
      · refine X_seq ?_
        refine X_reg ?_
        refine XR_a (op_move rfl) rfl rfl ?_
        refine XR_a (op_move rfl) rfl rfl ?_
        first | refine XR_a (op_index1 rfl rfl rfl (by omega)) rfl rfl ?_ | refine XR_a (op_index rfl rfl rfl (by omega)) rfl rfl ?_
        refine XR_a (op_ld (hci st.low a (by omega)) rfl rfl rfl) rfl rfl ?_
        rw [hx]
        refine XR_a (op_eql rfl rfl) rfl rfl ?_
        refine XR_a (op_move rfl) rfl rfl ?_
        refine XR_if 53 rfl (fun h => ?_) (fun h => ?_)
        · have h53 := h
          refine XR_a (op_move rfl) rfl rfl ?_
          refine XR_a (op_gtr rfl rfl) rfl rfl ?_
          refine XR_a (op_pick_t rfl rfl) rfl rfl ?_
          refine XR_nil ?_
          refine X_if rfl (fun h => ?_) (fun h => ?_)
          · refine X_reg ?_
            refine XR_a (op_move rfl) rfl rfl ?_
            refine XR_a (op_build (ps := [(0, nV 18), (1, nV k)]) (cs := #[nV 18, nV k]) rfl rfl) rfl rfl ?_
            refine XR_wn (opl_store_whole (us := pC2 (18, k)) st 0 rfl rfl rfl rfl rfl (one_pC2 _) rfl) rfl rfl fun _ hp st => ?_
            simp only [List.set_cons_zero] at st
            refine XR_nil ?_
            exact X_meet () (.cons rfl (.cons rfl (.cons rfl (.cons rfl (.cons rfl (.nil _)))))) (by rw [hq2, if_pos (by omega)]; exact st)
          · refine X_skip ?_
            exact X_meet () (.cons rfl (.cons rfl (.cons rfl (.cons rfl (.cons rfl (.nil _)))))) (by rw [hq2, if_neg (by omega)]; exact st)
        · have h53 := h
          refine XR_no rfl rfl ?_
          refine XR_no rfl rfl ?_
          refine XR_a (op_pick_f rfl rfl) rfl rfl ?_
          refine XR_nil ?_
          refine X_else rfl ?_
          refine X_skip ?_
          exact X_meet () (.cons rfl (.cons rfl (.cons rfl (.cons rfl (.cons rfl (.nil _)))))) (by rw [hq2, if_neg (by omega)]; exact st)
      rintro ⟨⟩ hp6 st
      refine X_seq ?_
      refine X_cut (fun (_ : Unit) => [(0, .slice (some ⟨g, o, none⟩) n c), (3, v), (4, nV a), (5, nV k), (6, .pointer (some ⟨p6, 0, none⟩))])
        (fun (_ : Unit) hp' => St h0.size h0 hp' [pt p6 130 (pC2 q3), row 130 2 v (s.flatMap pC2)]) ?_ ?_
      · refine X_seq ?_
        refine X_reg ?_
        refine XR_a (op_move rfl) rfl rfl ?_
        refine XR_a (op_gtr rfl rfl) rfl rfl ?_
        refine XR_a (op_move rfl) rfl rfl ?_
        refine XR_if 61 rfl (fun h => ?_) (fun h => ?_)
        · have h61 := h
          refine XR_a (op_move rfl) rfl rfl ?_
          refine XR_a (op_move rfl) rfl rfl ?_
          first | refine XR_a (op_index1 rfl rfl rfl (by omega)) rfl rfl ?_ | refine XR_a (op_index rfl rfl rfl (by omega)) rfl rfl ?_
          refine XR_a (op_ld (hci st.low a (by omega)) rfl rfl rfl) rfl rfl ?_
          rw [hx]
          refine XR_a (op_eql rfl rfl) rfl rfl ?_
          refine XR_a (op_pick_t rfl rfl) rfl rfl ?_
          refine XR_nil ?_
          refine X_if rfl (fun h => ?_) (fun h => ?_)
          · refine X_reg ?_
            first | refine XR_a (op_field0 rfl rfl) rfl rfl ?_ | refine XR_a (op_fieldn rfl rfl) rfl rfl ?_
            refine XR_wn (opl_store_pt (v := nV 138) st 0 rfl rfl rfl rfl rfl rfl) rfl rfl fun _ hp st => ?_
            simp only [List.set_cons_zero] at st
            refine XR_nil ?_
            exact X_meet () (.cons rfl (.cons rfl (.cons rfl (.cons rfl (.cons rfl (.nil _)))))) (by rw [hq3, if_pos (by omega)]; exact st)
          · refine X_skip ?_
            exact X_meet () (.cons rfl (.cons rfl (.cons rfl (.cons rfl (.cons rfl (.nil _)))))) (by rw [hq3, if_neg (by omega)]; exact st)
        · have h61 := h
          refine XR_no rfl rfl ?_
          refine XR_no rfl rfl ?_
          refine XR_no rfl rfl ?_
          refine XR_no rfl rfl ?_
          refine XR_no rfl rfl ?_
          refine XR_a (op_pick_f rfl rfl) rfl rfl ?_
          refine XR_nil ?_
          refine X_else rfl ?_
          refine X_skip ?_
          exact X_meet () (.cons rfl (.cons rfl (.cons rfl (.cons rfl (.cons rfl (.nil _)))))) (by rw [hq3, if_neg (by omega)]; exact st)
      rintro ⟨⟩ hp7 st
      refine X_seq ?_
      refine X_cut (fun (_ : Unit) => [(0, .slice (some ⟨g, o, none⟩) n c), (3, v), (4, nV a), (5, nV k), (6, .pointer (some ⟨p6, 0, none⟩))])
        (fun (_ : Unit) hp' => St h0.size h0 hp' [pt p6 130 (pC2 q4), row 130 2 v (s.flatMap pC2)]) ?_ ?_
      · refine X_seq ?_
        refine X_draw byKind (by kernel_rfl) (by kernel_rfl) ?_
        refine XR_a (op_move rfl) rfl rfl ?_
        refine XR_a (op_move rfl) rfl rfl ?_
        first | refine XR_a (op_index1 rfl rfl rfl (by omega)) rfl rfl ?_ | refine XR_a (op_index rfl rfl rfl (by omega)) rfl rfl ?_
        refine XR_a (op_ld (hci st.low a (by omega)) rfl rfl rfl) rfl rfl ?_
        rw [hx]
        refine XR_a (op_neq rfl rfl) rfl rfl ?_
        refine XR_a (op_move rfl) rfl rfl ?_
        refine XR_if 74 rfl (fun h => ?_) (fun h => ?_)
        · have h74 := h
          refine XR_a (op_move rfl) rfl rfl ?_
          refine XR_a (op_gtr rfl rfl) rfl rfl ?_
          refine XR_a (op_pick_t rfl rfl) rfl rfl ?_
          refine XR_a (op_move rfl) rfl rfl ?_
          refine XR_if 78 rfl (fun h => ?_) (fun h => ?_)
          · have h78 := h
            refine XR_a (op_move rfl) rfl rfl ?_
            refine XR_a (op_move rfl) rfl rfl ?_
            first | refine XR_a (op_subN (n := 1) rfl rfl (by omega) (by simp only [inK]; omega)) rfl rfl ?_ | refine XR_a (op_subI rfl rfl (by simp only [inK]; omega)) rfl rfl ?_ | refine XR_a (op_sub rfl rfl) rfl rfl ?_
            refine XR_a (op_index1 (i := a - 1) rfl rfl rfl (by omega)) rfl rfl ?_
            refine XR_a (op_ld (hci st.low (a - 1) (by omega)) rfl rfl rfl) rfl rfl ?_
            refine XR_a (op_move rfl) rfl rfl ?_
            refine XR_a (op_move rfl) rfl rfl ?_
            first | refine XR_a (op_index1 rfl rfl rfl (by omega)) rfl rfl ?_ | refine XR_a (op_index rfl rfl rfl (by omega)) rfl rfl ?_
            refine XR_a (op_ld (hci st.low a (by omega)) rfl rfl rfl) rfl rfl ?_
            rw [hx]
            refine XR_a (op_eql rfl rfl) rfl rfl ?_
            refine XR_a (op_pick_t rfl rfl) rfl rfl ?_
            refine XR_a (op_move rfl) rfl rfl ?_
            refine XR_if 90 rfl (fun h => ?_) (fun h => ?_)
            · have h90 := h
              refine XR_a (op_move rfl) rfl rfl ?_
              refine XR_a (op_gtr rfl rfl) rfl rfl ?_
              refine XR_a (op_pick_t rfl rfl) rfl rfl ?_
              refine XR_nil ?_
              refine X_if rfl (fun h => ?_) (fun h => ?_)
              · have h6 := h
                refine X_seq ?_
                refine X_reg ?_
                refine XR_a (op_move rfl) rfl rfl ?_
                refine XR_a (op_build (ps := [(0, nV 16), (1, nV k)]) (cs := #[nV 16, nV k]) rfl rfl) rfl rfl ?_
                refine XR_wn (opl_store_whole (us := pC2 (16, k)) st 0 rfl rfl rfl rfl rfl (one_pC2 _) rfl) rfl rfl fun _ hp st => ?_
                simp only [List.set_cons_zero] at st
                refine XR_nil ?_
                refine X_seq ?_
                refine X_reg ?_
                refine XR_a (op_move rfl) rfl rfl ?_
                refine XR_a (op_gtr rfl rfl) rfl rfl ?_
                refine XR_nil ?_
                refine X_if rfl (fun h => ?_) (fun h => ?_)
                · refine X_reg ?_
                  first | refine XR_a (op_field0 rfl rfl) rfl rfl ?_ | refine XR_a (op_fieldn rfl rfl) rfl rfl ?_
                  refine XR_wn (opl_store_pt (v := nV 6) st 0 rfl rfl rfl rfl rfl rfl) rfl rfl fun _ hp st => ?_
                  simp only [List.set_cons_zero] at st
                  refine XR_nil ?_
                  exact X_meet () (.cons rfl (.cons rfl (.cons rfl (.cons rfl (.cons rfl (.nil _)))))) (by rw [hq4, if_pos (by omega), Nat.min_eq_right (by omega)]; exact st)
                · refine X_skip ?_
                  exact X_meet () (.cons rfl (.cons rfl (.cons rfl (.cons rfl (.cons rfl (.nil _)))))) (by rw [hq4, if_pos (by omega), Nat.min_eq_left (by omega)]; exact st)
              · have h6 := h
                refine X_skip ?_
                exact X_meet () (.cons rfl (.cons rfl (.cons rfl (.cons rfl (.cons rfl (.nil _)))))) (by rw [hq4, if_neg (by omega)]; exact st)
            · have h90 := h
              refine XR_no rfl rfl ?_
              refine XR_no rfl rfl ?_
              refine XR_a (op_pick_f rfl rfl) rfl rfl ?_
              refine XR_nil ?_
              refine X_else rfl ?_
              refine X_skip ?_
              exact X_meet () (.cons rfl (.cons rfl (.cons rfl (.cons rfl (.cons rfl (.nil _)))))) (by rw [hq4, if_neg (by omega)]; exact st)
          · have h78 := h
            refine XR_no rfl rfl ?_
            refine XR_no rfl rfl ?_
            refine XR_no rfl rfl ?_
            refine XR_no rfl rfl ?_
            refine XR_no rfl rfl ?_
            refine XR_no rfl rfl ?_
            refine XR_no rfl rfl ?_
            refine XR_no rfl rfl ?_
            refine XR_no rfl rfl ?_
            refine XR_no rfl rfl ?_
            refine XR_a (op_pick_f rfl rfl) rfl rfl ?_
            refine XR_a (op_move rfl) rfl rfl ?_
            refine XR_no rfl rfl ?_
            refine XR_no rfl rfl ?_
            refine XR_a (op_pick_f rfl rfl) rfl rfl ?_
            refine XR_nil ?_
            refine X_else rfl ?_
            refine X_skip ?_
            exact X_meet () (.cons rfl (.cons rfl (.cons rfl (.cons rfl (.cons rfl (.nil _)))))) (by rw [hq4, if_neg (by omega)]; exact st)
        · have h74 := h
          refine XR_no rfl rfl ?_
          refine XR_no rfl rfl ?_
          refine XR_a (op_pick_f rfl rfl) rfl rfl ?_
          refine XR_a (op_move rfl) rfl rfl ?_
          refine XR_no rfl rfl ?_
          refine XR_no rfl rfl ?_
          refine XR_no rfl rfl ?_
          refine XR_no rfl rfl ?_
          refine XR_no rfl rfl ?_
          refine XR_no rfl rfl ?_
          refine XR_no rfl rfl ?_
          refine XR_no rfl rfl ?_
          refine XR_no rfl rfl ?_
          refine XR_no rfl rfl ?_
          refine XR_a (op_pick_f rfl rfl) rfl rfl ?_
          refine XR_a (op_move rfl) rfl rfl ?_
          refine XR_no rfl rfl ?_
          refine XR_no rfl rfl ?_
          refine XR_a (op_pick_f rfl rfl) rfl rfl ?_
          refine XR_nil ?_
          refine X_else rfl ?_
          refine X_skip ?_
          exact X_meet () (.cons rfl (.cons rfl (.cons rfl (.cons rfl (.cons rfl (.nil _)))))) (by rw [hq4, if_neg (by omega)]; exact st)
      rintro ⟨⟩ hp8 st
      rw [hP4] at hs hpm
      refine X_seq ?_
      refine X_reg ?_
      refine XR_a (op_move rfl) rfl rfl ?_
      refine XR_a (op_ldA (vs := pC2 q4) (st.cells 0 rfl) rfl rfl rfl rfl) rfl rfl ?_
      refine XR_wa (opl_varA (us := pC2 q4) rfl rfl rfl rfl (by kernel_rfl)) rfl rfl rfl ?_
      rintro _ hp ⟨A9, rfl, hx9, hrd⟩
      replace st := st.ext hx9
      refine XR_wa (opl_append st 1 rfl (hrd) (rfl) (one_pC2 q4) (by rw [flat_length _ 2 (fun _ => rfl)]; simp [pC2]; omega) rfl rfl rfl rfl rfl rfl rfl) rfl rfl rfl fun v hp st => ?_
      simp only [List.set_cons_zero, List.set_cons_succ] at st
      have e2 : s.flatMap pC2 ++ pC2 q4 = (s ++ [q4]).flatMap pC2 := by rw [List.flatMap_append]; simp
      rw [e2] at st
      refine XR_a (op_assign rfl) rfl rfl ?_
      refine XR_nil ?_
      refine X_reg ?_
      refine XR_a (op_move rfl) rfl rfl ?_
      first | refine XR_a (op_field0 rfl rfl) rfl rfl ?_ | refine XR_a (op_fieldn rfl rfl) rfl rfl ?_
      refine XR_a (op_ld (st.cell 0 (i := 1) rfl rfl) rfl rfl rfl) rfl rfl ?_
      first | refine XR_a (op_addN rfl rfl (by simp only [inK]; omega)) rfl rfl ?_ | refine XR_a (op_addI rfl rfl (by simp only [inK]; omega)) rfl rfl ?_ | refine XR_a (op_add rfl rfl) rfl rfl ?_
      refine XR_a (op_assign rfl) rfl rfl ?_
      refine XR_nil ?_
      refine X_blk ?_
      exact X_again (a + q4.2, v, s ++ [q4]) (.cons rfl (.cons rfl (.cons rfl (.nil _)))) ⟨by simp only; omega, by simp only [List.length_append, List.length_cons, List.length_nil]; omega, by simp only; rw [List.append_assoc]; exact hs, st.tail⟩ (by simp only; omega)
  · refine X_exit rfl ?_
    refine X_seq ?_
    refine X_reg ?_
    refine XR_a (op_move rfl) rfl rfl ?_
    refine XR_a (op_assign rfl) rfl rfl ?_
    refine XR_nil ?_
    refine X_ret (.cons (.tmp rfl) .nil) ?_
    rw [partsL_end (by omega), List.append_nil] at hs
    rw [← hs]
    exact st
theorem put09_ref {n c : Nat} {A : Option Addr} {ls : List Nat} {h0 : Heap} (hr : Rd h0 A (ls.map nV)) (hl : ls.length = n) (hn1 : 1 ≤ n) (hn : n ≤ 320) (hb2 : ∀ x ∈ ls, x ≤ 15) :
    Ret Tryz.prog 49 [.slice A n c] h0 fun v h' => St h0.size h0 h' [row 5 1 v ((b01 (putR ls)).map byteV)] := by
  have hpm := partsL_mem hb2
  have hplen := partsL_len ls
  have hok := plens_ok hb2 (by omega)
  have h19 := plens_len ls
  have hpp := fun x => plens_pos (l := ls) hb2 (x := x)
  have hP1 : 1 ≤ (partsL ls 0).length := by rw [partsL_cons (by omega)]; simp
  have hpl : lensW (pcnt (partsL ls 0)) = plens ls := rfl
  have hputR : putHead ls 19 ++ (partsL ls 0).flatMap (partBits (plens ls)) = putR ls := rfl
  refine ret_of_X Tryz.func49 rfl rfl fun w0 hw0 => ?_
  simp only [argE, Nat.zero_add, Nat.reduceAdd]
  refine X_seq ?_
  refine X_reg ?_
  refine XR_a (op_assign rfl) rfl rfl ?_
  refine XR_nil ?_
  refine X_seq ?_
  refine X_reg ?_
  refine XR_a (op_move rfl) rfl rfl ?_
  refine XR_wa (opl_call (parts_ref hr hl (by omega)) rfl (by kernel_rfl)) rfl rfl rfl ?_
  rintro v3 hp st
  obtain ⟨P, hP⟩ : ∃ P, partsL ls 0 = P := ⟨_, rfl⟩
  rw [hP] at st hplen hP1 hpl hpm hpp hputR
  have hfl := flat_length pC2 2 (fun _ => rfl) P
  obtain ⟨g3, n3, c3, rfl, hl3, _⟩ := st.row0 0 rfl (by rw [hfl]; omega)
  rw [hfl] at hl3
  obtain rfl : n3 = P.length := by omega
  refine XR_a (op_assign rfl) rfl rfl ?_
  refine XR_nil ?_
  refine X_seq ?_
  refine X_reg ?_
  refine XR_wa (opl_mk (n := 19) (by omega) rfl rfl rfl) rfl rfl rfl ?_
  rintro v hp hnew
  replace st := st.new hnew
  obtain ⟨go, no, co, rfl, hno, _⟩ := st.row0 0 rfl (by rw [List.length_replicate]; omega)
  obtain rfl : no = 19 := by simpa using hno.symm
  rw [show List.replicate 19 (Value.int .i64 0) = (pcnt (P.take 0)).map nV by rw [List.take_zero, pcnt_nil, List.map_replicate]; rfl] at st
  refine XR_a (op_assign rfl) rfl rfl ?_
  refine XR_nil ?_
  refine X_seq ?_
  refine X_seq ?_
  refine X_reg ?_
  refine XR_a (op_assign rfl) rfl rfl ?_
  refine XR_nil ?_
  refine X_block ?_
  refine X_loop (fun i => P.length - i) (fun i => [(0, .slice A n c), (3, .slice (some ⟨g3, 0, none⟩) P.length c3), (4, .slice (some ⟨go, 0, none⟩) 19 co), (5, nV i)])
    (fun (i : Nat) hp => i ≤ P.length ∧ St h0.size h0 hp [row 3 1 (.slice (some ⟨go, 0, none⟩) 19 co) ((pcnt (P.take i)).map nV), row 130 2 (.slice (some ⟨g3, 0, none⟩) P.length c3) (P.flatMap pC2)])
    0 (.cons rfl (.cons rfl (.cons rfl (.cons rfl (.nil _))))) ⟨Nat.zero_le _, st⟩ ?_
  clear st
  rintro i hp ⟨hi, st⟩
  refine X_seq ?_
  refine X_seq ?_
  refine X_reg ?_
  refine XR_a (op_move rfl) rfl rfl ?_
  refine XR_a (op_move rfl) rfl rfl ?_
  refine XR_a (op_len rfl rfl rfl) rfl rfl ?_
  refine XR_a (op_lss rfl rfl) rfl rfl ?_
  refine XR_nil ?_
  refine X_if rfl (fun h => ?_) (fun h => ?_)
  · have hiP : i < P.length := by omega
    obtain ⟨x, hx⟩ : ∃ x, P[i] = x := ⟨_, rfl⟩
    have hix : P[i]? = some x := by rw [List.getElem?_eq_getElem hiP, hx]
    have hx19 := (hpm x (by rw [← hx]; exact List.getElem_mem _)).1
    have hcx := St.flatAt pC2 2 (fun _ => rfl) (by omega) st 1 rfl hix
    have hog := pcnt_get (s := P.take i) hx19
    have hcl := pcnt_le (P.take i) _ (List.mem_of_getElem? hog)
    rw [List.length_take] at hcl
    obtain ⟨_, _, he8, hc8⟩ := (st.rdS 0 rfl).2.at_ (by rw [List.length_map, pcnt_len]; omega)
    cases he8
    have hov := hc8 _ _ (map_get_nV hog)
    have htk : P.take (i + 1) = P.take i ++ [x] := by rw [List.take_succ_eq_append_getElem hiP, hx]
    refine X_skip ?_
    refine X_seq ?_
    refine X_block ?_
    refine X_reg ?_
    refine XR_a (op_move rfl) rfl rfl ?_
    refine XR_a (op_move rfl) rfl rfl ?_
    refine XR_a (op_move rfl) rfl rfl ?_
    refine XR_a (op_index (i := i) rfl rfl rfl (by omega)) rfl rfl ?_
    first | refine XR_a (op_field0 rfl rfl) rfl rfl ?_ | refine XR_a (op_fieldn rfl rfl) rfl rfl ?_
    refine XR_a (op_ld (hcx 0 _ rfl) rfl rfl rfl) rfl rfl ?_
    first | refine XR_a (op_index1 rfl rfl rfl (by omega)) rfl rfl ?_ | refine XR_a (op_index rfl rfl rfl (by omega)) rfl rfl ?_
    refine XR_a (op_ld (hov) rfl rfl rfl) rfl rfl ?_
    first | refine XR_a (op_addN (n := 1) rfl rfl (by simp only [inK]; omega)) rfl rfl ?_ | refine XR_a (op_addI rfl rfl (by simp only [inK]; omega)) rfl rfl ?_ | refine XR_a (op_add rfl rfl) rfl rfl ?_
    first | refine XR_a (op_index1 rfl rfl rfl (by omega)) rfl rfl ?_ | refine XR_a (op_index rfl rfl rfl (by omega)) rfl rfl ?_
    refine XR_wn (opl_store_row (v := nV (((P.take i).map (·.1)).count x.1 + 1)) st 0 rfl rfl rfl (by rw [List.length_map, pcnt_len]; exact hx19) rfl rfl) rfl rfl fun _ hp st => ?_
    simp only [List.set_cons_zero, List.set_cons_succ] at st
    rw [map_set_nV, pcnt_set, ← htk] at st
    refine XR_nil ?_
    refine X_blk ?_
    refine X_reg ?_
    refine XR_a (op_move rfl) rfl rfl ?_
    first | refine XR_a (op_addN (n := 1) rfl rfl (by simp only [inK]; omega)) rfl rfl ?_ | refine XR_a (op_addI rfl rfl (by simp only [inK]; omega)) rfl rfl ?_ | refine XR_a (op_add rfl rfl) rfl rfl ?_
    refine XR_a (op_assign rfl) rfl rfl ?_
    refine XR_nil ?_
    exact X_again (i + 1) (.cons rfl (.cons rfl (.cons rfl (.cons rfl (.nil _))))) ⟨by omega, st⟩ (by omega)
  · refine X_exit rfl ?_
    refine X_seq ?_
    obtain rfl : i = P.length := by omega
    rw [List.take_length] at st
    have hwb : ∀ s, wkey (pcnt P) s ≤ 1073741824 := fun s => by
      unfold wkey
      rcases Nat.lt_or_ge s 19 with h9 | h9
      · rw [getD_eq (by rw [pcnt_len]; exact h9)]
        have := pcnt_le P _ (List.getElem_mem (l := pcnt P) (by rw [pcnt_len]; exact h9)); omega
      · rw [List.getD, List.getElem?_eq_none (by rw [pcnt_len]; exact h9)]; exact Nat.zero_le _
    refine X_reg ?_
    refine XR_a (op_move rfl) rfl rfl ?_
    refine XR_wa (opl_call (lengths_ref (st.rdS 0 rfl).2 (pcnt_len P) (by omega) hwb) rfl (by kernel_rfl)) rfl rfl rfl ?_
    rintro v6 hp6 st6
    rw [hpl] at st6
    obtain ⟨g6, n6, c6, rfl, hl6, _⟩ := st6.row0 0 rfl (by rw [List.length_map]; omega)
    rw [List.length_map, h19, Nat.mul_one] at hl6
    obtain rfl : n6 = 19 := by omega
    replace st := st.join st6
    simp only [List.cons_append, List.nil_append] at st
    refine XR_a (op_assign rfl) rfl rfl ?_
    refine XR_nil ?_
    refine X_seq ?_
    refine X_reg ?_
    refine XR_a (op_move rfl) rfl rfl ?_
    refine XR_wa (opl_call (values08_ref (st.rdS 0 rfl).2 h19 hok) rfl (by kernel_rfl)) rfl rfl rfl ?_
    rintro v7 hp7 st7
    obtain ⟨g7, n7, c7, rfl, hl7, _⟩ := st7.row0 0 rfl (by rw [List.length_map, vals_length]; omega)
    rw [List.length_map, vals_length, h19, Nat.mul_one] at hl7
    obtain rfl : n7 = 19 := by omega
    replace st := st.join st7
    simp only [List.cons_append, List.nil_append] at st
    refine XR_a (op_assign rfl) rfl rfl ?_
    refine XR_nil ?_
    refine X_seq ?_
    refine X_reg ?_
    refine XR_a (op_move rfl) rfl rfl ?_
    refine XR_a (op_len rfl rfl rfl) rfl rfl ?_
    refine XR_a (op_convI (k' := .u32) rfl rfl (by simp only [inK]; omega)) rfl rfl ?_
    refine XR_wa (opl_call (brow_ref (n := n) (k := 9) (by omega)) rfl (by kernel_rfl)) rfl rfl rfl ?_
    rintro v8 hp8 st8
    rw [show wd 32 9 = 9 from rfl] at st8
    replace st := st.join st8
    simp only [List.cons_append, List.nil_append] at st
    refine XR_a (op_assign rfl) rfl rfl ?_
    refine XR_nil ?_
    refine X_seq ?_
    refine X_seq ?_
    refine X_reg ?_
    refine XR_a (op_assign rfl) rfl rfl ?_
    refine XR_nil ?_
    refine X_block ?_
    have hh0 : bitsN 9 n = putHead ls 0 := by unfold putHead; rw [hl]; simp
    rw [hh0] at st
    refine X_loop (fun s => 19 - s.1) (fun s => [(3, .slice (some ⟨g3, 0, none⟩) P.length c3), (6, .slice (some ⟨g6, 0, none⟩) 19 c6), (7, .slice (some ⟨g7, 0, none⟩) 19 c7), (8, s.2), (9, nV s.1)])
      (fun (s : Nat × Value) hp => s.1 ≤ 19 ∧ St h0.size h0 hp [row 5 1 s.2 ((b01 (putHead ls s.1)).map byteV), row 3 1 (.slice (some ⟨g7, 0, none⟩) 19 c7) ((vals (plens ls)).map nV), row 3 1 (.slice (some ⟨g6, 0, none⟩) 19 c6) ((plens ls).map nV),
        row 3 1 (.slice (some ⟨go, 0, none⟩) 19 co) ((pcnt P).map nV), row 130 2 (.slice (some ⟨g3, 0, none⟩) P.length c3) (P.flatMap pC2)])
      (0, v8) (.cons rfl (.cons rfl (.cons rfl (.cons rfl (.cons rfl (.nil _)))))) ⟨Nat.zero_le _, st⟩ ?_
    clear st
    rintro ⟨i, v⟩ hp8 ⟨hi, st⟩
    simp only at hi st ⊢
    refine X_seq ?_
    refine X_seq ?_
    refine X_reg ?_
    refine XR_a (op_move rfl) rfl rfl ?_
    refine XR_a (op_lss rfl rfl) rfl rfl ?_
    refine XR_nil ?_
    refine X_if rfl (fun h => ?_) (fun h => ?_)
    · obtain ⟨_, _, he9, hc9⟩ := (st.rdS 2 rfl).2.at_ (by rw [List.length_map]; omega)
      cases he9
      have hl15 : (plens ls).getD i 0 ≤ 15 := by rw [getD_eq (by omega)]; exact hok.2.2.1 _ (List.getElem_mem _)
      have hhl := putHead_len ls i
      refine X_skip ?_
      refine X_seq ?_
      refine X_block ?_
      refine X_reg ?_
      refine XR_a (op_move rfl) rfl rfl ?_
      refine XR_a (op_move rfl) rfl rfl ?_
      refine XR_a (op_move rfl) rfl rfl ?_
      first | refine XR_a (op_index1 rfl rfl rfl (by omega)) rfl rfl ?_ | refine XR_a (op_index rfl rfl rfl (by omega)) rfl rfl ?_
      refine XR_a (op_ld (hc9 i (nV ((plens ls).getD i 0)) (by rw [List.getElem?_map, List.getElem?_eq_getElem (by omega), getD_eq (by omega)]; rfl)) rfl rfl rfl) rfl rfl ?_
      refine XR_a (op_convI (k' := .u32) rfl rfl (by simp only [inK]; omega)) rfl rfl ?_
      refine XR_wa (opl_call (brow_ref (n := (plens ls).getD i 0) (k := 4) (by omega)) rfl (by kernel_rfl)) rfl rfl rfl ?_
      rintro v9 hp9 st9
      rw [show wd 32 4 = 4 from rfl] at st9
      obtain ⟨A9, n9, c9, rfl, hlen9, _, _, hrd9⟩ := st9.row 0 rfl
      replace st := st.ext st9.low
      refine XR_wa (opl_append st 0 rfl (hrd9) (hlen9) (one_bytes _) (by simp [b01_length, bitsN_length]; omega) rfl rfl rfl rfl rfl rfl rfl) rfl rfl rfl fun v hp st => ?_
      simp only [List.set_cons_zero, List.set_cons_succ] at st
      rw [← List.map_append, ← b01_append, ← putHead_succ (by omega)] at st
      refine XR_a (op_assign rfl) rfl rfl ?_
      refine XR_nil ?_
      refine X_blk ?_
      refine X_reg ?_
      refine XR_a (op_move rfl) rfl rfl ?_
      first | refine XR_a (op_addN (n := 1) rfl rfl (by simp only [inK]; omega)) rfl rfl ?_ | refine XR_a (op_addI rfl rfl (by simp only [inK]; omega)) rfl rfl ?_ | refine XR_a (op_add rfl rfl) rfl rfl ?_
      refine XR_a (op_assign rfl) rfl rfl ?_
      refine XR_nil ?_
      exact X_again (i + 1, _) (.cons rfl (.cons rfl (.cons rfl (.cons rfl (.cons rfl (.nil _)))))) ⟨by simp only; omega, st⟩ (by simp only; omega)
    · refine X_exit rfl ?_
      refine X_seq ?_
      refine X_seq ?_
      refine X_reg ?_
      refine XR_a (op_assign rfl) rfl rfl ?_
      refine XR_nil ?_
      refine X_block ?_
      obtain rfl : i = 19 := by omega
      have hhl := putHead_len ls 19
      rw [show putHead ls 19 = putHead ls 19 ++ (P.take 0).flatMap (partBits (plens ls)) by simp] at st
      refine X_loop (fun s => P.length - s.1) (fun s => [(3, .slice (some ⟨g3, 0, none⟩) P.length c3), (6, .slice (some ⟨g6, 0, none⟩) 19 c6), (7, .slice (some ⟨g7, 0, none⟩) 19 c7), (8, s.2), (10, nV s.1)])
        (fun (s : Nat × Value) hp => s.1 ≤ P.length ∧ St h0.size h0 hp [row 5 1 s.2 ((b01 (putHead ls 19 ++ (P.take s.1).flatMap (partBits (plens ls)))).map byteV), row 3 1 (.slice (some ⟨g7, 0, none⟩) 19 c7) ((vals (plens ls)).map nV), row 3 1 (.slice (some ⟨g6, 0, none⟩) 19 c6) ((plens ls).map nV),
          row 3 1 (.slice (some ⟨go, 0, none⟩) 19 co) ((pcnt P).map nV), row 130 2 (.slice (some ⟨g3, 0, none⟩) P.length c3) (P.flatMap pC2)])
        (0, v) (.cons rfl (.cons rfl (.cons rfl (.cons rfl (.cons rfl (.nil _)))))) ⟨Nat.zero_le _, st⟩ ?_
      clear st
      rintro ⟨i, v⟩ hp8 ⟨hi, st⟩
      simp only at hi st ⊢
      refine X_seq ?_
      refine X_seq ?_
      refine X_reg ?_
      refine XR_a (op_move rfl) rfl rfl ?_
      refine XR_a (op_move rfl) rfl rfl ?_
      refine XR_a (op_len rfl rfl rfl) rfl rfl ?_
      refine XR_a (op_lss rfl rfl) rfl rfl ?_
      refine XR_nil ?_
      refine X_if rfl (fun h => ?_) (fun h => ?_)
      · have hiP : i < P.length := by omega
        obtain ⟨x, hx⟩ : ∃ x, P[i] = x := ⟨_, rfl⟩
        have hix : P[i]? = some x := by rw [List.getElem?_eq_getElem hiP, hx]
        have hxm : x ∈ P := by rw [← hx]; exact List.getElem_mem _
        obtain ⟨hx19, hxL, hxH⟩ := hpm x hxm
        have hxp := hpp x hxm
        have hxh := rH_le x.1
        have hcx := fun {h1 : Heap} (he : Ext hp8 h1) => St.flatAt pC2 2 (fun _ => rfl) (by omega) (st.ext he) 4 rfl hix
        have htk : P.take (i + 1) = P.take i ++ [x] := by rw [List.take_succ_eq_append_getElem hiP, hx]
        have hfb := flat_bd (partBits (plens ls)) 22 (partBits_len hok) (P.take i)
        rw [List.length_take] at hfb
        have hge := getD_eq (l := plens ls) (i := x.1) (by omega)
        have hl15 : (plens ls).getD x.1 0 ≤ 15 := by rw [hge]; exact hok.2.2.1 _ (List.getElem_mem _)
        have hv := val_lt hok (s := x.1) (by omega) (by rw [← hge]; exact hxp)
        have hv2 := fst_bd hok (n := (plens ls).getD x.1 0) (by omega)
        rw [← hge] at hv
        have hvl : (vals (plens ls))[x.1]? = some (val (plens ls) x.1) := by simp [vals, h19, hx19]
        have hll : (plens ls)[x.1]? = some ((plens ls).getD x.1 0) := by rw [hge, List.getElem?_eq_getElem (by omega)]
        obtain ⟨_, _, he9, hc9⟩ := (st.rdS 2 rfl).2.at_ (by rw [List.length_map]; omega)
        cases he9
        obtain ⟨_, _, he7, hc7⟩ := (st.rdS 1 rfl).2.at_ (by rw [List.length_map, vals_length]; omega)
        cases he7
        refine X_skip ?_
        refine X_seq ?_
        refine X_block ?_
        refine X_seq ?_
        refine X_reg ?_
        refine XR_a (op_move rfl) rfl rfl ?_
        refine XR_a (op_move rfl) rfl rfl ?_
        refine XR_a (op_index (i := i) rfl rfl rfl (by omega)) rfl rfl ?_
        first | refine XR_a (op_field0 rfl rfl) rfl rfl ?_ | refine XR_a (op_fieldn rfl rfl) rfl rfl ?_
        refine XR_a (op_ld (hcx (Ext.refl _) 0 _ rfl) rfl rfl rfl) rfl rfl ?_
        refine XR_a (op_assign rfl) rfl rfl ?_
        refine XR_nil ?_
        refine X_seq ?_
        refine X_draw (butAt [(9, .grow)]) (by kernel_rfl) (by kernel_rfl) ?_
        refine XR_a (op_move rfl) rfl rfl ?_
        refine XR_a (op_move rfl) rfl rfl ?_
        refine XR_a (op_move rfl) rfl rfl ?_
        first | refine XR_a (op_index1 rfl rfl rfl (by omega)) rfl rfl ?_ | refine XR_a (op_index rfl rfl rfl (by omega)) rfl rfl ?_
        refine XR_a (op_ld (hc7 x.1 _ (map_get_nV hvl)) rfl rfl rfl) rfl rfl ?_
        refine XR_a (op_move rfl) rfl rfl ?_
        refine XR_a (op_move rfl) rfl rfl ?_
        first | refine XR_a (op_index1 rfl rfl rfl (by omega)) rfl rfl ?_ | refine XR_a (op_index rfl rfl rfl (by omega)) rfl rfl ?_
        refine XR_a (op_ld (hc9 x.1 _ (map_get_nV hll)) rfl rfl rfl) rfl rfl ?_
        refine XR_ga (opl_call (bits08_ref (z := val (plens ls) x.1) (n := (plens ls).getD x.1 0) (by omega) (by omega)) rfl (by kernel_rfl)) rfl rfl rfl (fun _ _ h => h.low) ?_
        rintro v12 hp12 st12
        obtain ⟨A12, n12, c12, rfl, hlen12, _, _, hrd12⟩ := st12.row 0 rfl
        replace st := st.ext st12.low
        refine XR_wa (opl_append st 0 rfl (hrd12) (hlen12) (one_bytes _) (by simp only [b01_length, codeBits_length, List.length_append, List.length_map]; omega) rfl rfl rfl rfl rfl rfl rfl) rfl rfl rfl fun v hp st => ?_
        simp only [List.set_cons_zero, List.set_cons_succ] at st
        rw [← List.map_append, ← b01_append] at st
        refine XR_a (op_assign rfl) rfl rfl ?_
        refine XR_nil ?_
        refine X_seq ?_
        refine X_reg ?_
        refine XR_a (op_move rfl) rfl rfl ?_
        refine XR_wa (opl_call (extra_ref x.1 _) rfl (by kernel_rfl)) rfl rfl rfl ?_
        rintro _ _ ⟨rfl, rfl⟩
        refine XR_a (op_move rfl) rfl rfl ?_
        refine XR_a (op_extract rfl rfl) rfl rfl ?_
        refine XR_a (op_extract rfl rfl) rfl rfl ?_
        refine XR_a (op_assign rfl) rfl rfl ?_
        refine XR_a (op_assign rfl) rfl rfl ?_
        refine XR_nil ?_
        refine X_reg ?_
        refine XR_a (op_move rfl) rfl rfl ?_
        refine XR_a (op_move rfl) rfl rfl ?_
        refine XR_a (op_move rfl) rfl rfl ?_
        refine XR_a (op_index (i := i) rfl rfl rfl (by omega)) rfl rfl ?_
        first | refine XR_a (op_field0 rfl rfl) rfl rfl ?_ | refine XR_a (op_fieldn rfl rfl) rfl rfl ?_
        refine XR_a (op_ld (St.flatAt pC2 2 (fun _ => rfl) (by omega) st 4 rfl hix 1 _ rfl) rfl rfl rfl) rfl rfl ?_
        refine XR_a (op_move rfl) rfl rfl ?_
        refine XR_a (op_subN (m := x.2) (n := rL x.1) rfl rfl hxL (by simp only [inK]; omega)) rfl rfl ?_
        refine XR_a (op_convI (k' := .u32) rfl rfl (by simp only [inK]; omega)) rfl rfl ?_
        refine XR_a (op_move rfl) rfl rfl ?_
        refine XR_wa (opl_call (brow_ref (n := x.2 - rL x.1) (k := ((rW x.1 : Nat) : Int)) (by omega)) rfl (by kernel_rfl)) rfl rfl rfl ?_
        rintro v14 hp14 st14
        rw [wd_nat (by have := rW_le x.1; omega)] at st14
        obtain ⟨A14, n14, c14, rfl, hlen14, _, _, hrd14⟩ := st14.row 0 rfl
        replace st := st.ext st14.low
        have hrw := rW_le x.1
        refine XR_wa (opl_append st 0 rfl (hrd14) (hlen14) (one_bytes _) (by simp only [b01_length, codeBits_length, bitsN_length, List.length_append, List.length_map]; omega) rfl rfl rfl rfl rfl rfl rfl) rfl rfl rfl fun v hp st => ?_
        simp only [List.set_cons_zero, List.set_cons_succ] at st
        rw [← List.map_append, ← b01_append] at st
        have e : putHead ls 19 ++ (P.take i).flatMap (partBits (plens ls)) ++ codeBits (val (plens ls) x.1) ((plens ls).getD x.1 0) ++ bitsN (rW x.1) (x.2 - rL x.1) = putHead ls 19 ++ (P.take (i + 1)).flatMap (partBits (plens ls)) := by
          rw [htk, List.flatMap_append]
          simp [partBits]
        rw [e] at st
        refine XR_a (op_assign rfl) rfl rfl ?_
        refine XR_nil ?_
        refine X_blk ?_
        refine X_reg ?_
        refine XR_a (op_move rfl) rfl rfl ?_
        first | refine XR_a (op_addN (n := 1) rfl rfl (by simp only [inK]; omega)) rfl rfl ?_ | refine XR_a (op_addI rfl rfl (by simp only [inK]; omega)) rfl rfl ?_ | refine XR_a (op_add rfl rfl) rfl rfl ?_
        refine XR_a (op_assign rfl) rfl rfl ?_
        refine XR_nil ?_
        exact X_again (i + 1, _) (.cons rfl (.cons rfl (.cons rfl (.cons rfl (.cons rfl (.nil _)))))) ⟨by simp only; omega, st⟩ (by simp only; omega)
      · refine X_exit rfl ?_
        refine X_seq ?_
        refine X_reg ?_
        refine XR_a (op_move rfl) rfl rfl ?_
        refine XR_a (op_assign rfl) rfl rfl ?_
        refine XR_nil ?_
        refine X_ret (.cons (.tmp rfl) .nil) ?_
        rw [List.take_of_length_le (by omega), hputR] at st
        exact st.keep 1
end Go.Bn
end

section
namespace Go.Bn
theorem lensW_ok {ws : List Nat} (h1 : 1 ≤ ws.length) (h2 : ws.length ≤ 320) (hs : (syms ws).length ≠ 0) : lensOK (lensW ws) := by
  refine ⟨by rw [lensW_length]; exact h1, by rw [lensW_length]; exact h2, lensW_le ws, ?_⟩
  by_cases h : (syms ws).length = 1
  · exact .inr (lensW_one h (by omega))
  · exact .inl (lensW_kraft (by omega) (by omega))
theorem rightC_cast {ls : List Nat} (h : lensOK ls) : rightC (castI ls) := by
  obtain ⟨h1, h2, h3, h4⟩ := h
  refine ⟨by unfold castI; rw [List.length_map]; exact h1, ⟨by unfold castI; rw [List.length_map]; exact h2, fun x hx => ?_⟩, by rw [castI_toNat]; exact h4⟩
  obtain ⟨y, hy, rfl⟩ := List.mem_map.1 hx
  have := h3 y hy
  omega
theorem addAt_ge (l : List Nat) (i j : Nat) : l.getD j 0 ≤ (addAt l i).getD j 0 := by
  unfold addAt
  rw [List.getD_eq_getElem?_getD, List.getD_eq_getElem?_getD, List.getElem?_set]
  split
  · rename_i h
    subst h
    split
    · rw [List.getD_eq_getElem?_getD]; simp
    · rw [List.getElem?_eq_none (by omega)]; simp
  · exact Nat.le_refl _
theorem addAt_pos {l : List Nat} {i : Nat} (h : i < l.length) : 0 < (addAt l i).getD i 0 := by
  unfold addAt
  rw [List.getD_eq_getElem?_getD, List.getElem?_set, if_pos rfl, if_pos h]
  simp
theorem foldW_first (ys : List Sy) : 0 < (foldW ys).1.getD 256 0 := by
  suffices h : ∀ (ys : List Sy) (s : List Nat × List Nat × Nat), 0 < s.1.getD 256 0 → 0 < (ys.foldl stepW s).1.getD 256 0 from h ys startW (by decide +kernel)
  intro ys
  induction ys with
  | nil => intro s h; exact h
  | cons y ys ih =>
    intro s h
    rw [List.foldl_cons]
    exact ih _ (Nat.lt_of_lt_of_le h (addAt_ge s.1 y.a.num.toNat 256))
theorem firstW_syms (ys : List Sy) : (syms (firstW ys)).length ≠ 0 := by
  have h : 256 ∈ syms (firstW ys) := mem_syms.2 ⟨by unfold firstW; rw [(foldW_ok ys).1]; decide, foldW_first ys⟩
  have := List.length_pos_of_mem h
  omega
theorem foldW_second {ys : List Sy} (hb : ∀ y ∈ ys, y.b.num.toNat < 30) : (foldW ys).2.2 = 0 ∨ ∃ i, i < 30 ∧ 0 < (foldW ys).2.1.getD i 0 := by
  suffices h : ∀ (ys : List Sy), (∀ y ∈ ys, y.b.num.toNat < 30) → ∀ (s : List Nat × List Nat × Nat), s.2.1.length = 30 → (s.2.2 = 0 ∨ ∃ i, i < 30 ∧ 0 < s.2.1.getD i 0) → ((ys.foldl stepW s).2.2 = 0 ∨ ∃ i, i < 30 ∧ 0 < (ys.foldl stepW s).2.1.getD i 0) from h ys hb startW (by decide +kernel) (.inl rfl)
  intro ys
  induction ys with
  | nil => intro _ s _ h; exact h
  | cons y ys ih =>
    intro hb s hl h
    rw [List.foldl_cons]
    have hy := hb y List.mem_cons_self
    refine ih (fun z hz => hb z (List.mem_cons_of_mem _ hz)) _ ?_ ?_
    · simp only [stepW]; split
      · rw [addAt_length]; exact hl
      · exact hl
    · simp only [stepW]
      by_cases hm : y.m = true
      · rw [if_pos hm, if_pos hm]
        exact .inr ⟨_, hy, addAt_pos (by omega)⟩
      · rw [if_neg hm, if_neg hm]; exact h
theorem secondW_len (ys : List Sy) : (secondW ys).length = 30 := by
  unfold secondW
  split
  · rw [List.length_set]; exact (foldW_ok ys).2.1
  · exact (foldW_ok ys).2.1
theorem firstW_len (ys : List Sy) : (firstW ys).length = 273 := (foldW_ok ys).1
theorem secondW_syms {ys : List Sy} (hb : ∀ y ∈ ys, y.b.num.toNat < 30) : (syms (secondW ys)).length ≠ 0 := by
  have h : ∃ i, i ∈ syms (secondW ys) := by
    by_cases h0 : (foldW ys).2.2 = 0
    · refine ⟨0, mem_syms.2 ⟨by rw [secondW_len]; decide, ?_⟩⟩
      unfold wkey secondW
      rw [if_pos h0, List.getD_eq_getElem?_getD, List.getElem?_set, if_pos rfl, if_pos (by rw [(foldW_ok ys).2.1]; decide)]
      exact Nat.zero_lt_one
    · rcases foldW_second hb with h1 | ⟨i, h1, h2⟩
      · exact absurd h1 h0
      · refine ⟨i, mem_syms.2 ⟨by rw [secondW_len]; exact h1, ?_⟩⟩
        unfold wkey secondW
        rw [if_neg h0]; exact h2
  obtain ⟨i, h⟩ := h
  have := List.length_pos_of_mem h
  omega
theorem firstW_le (ys : List Sy) : ∀ x ∈ firstW ys, x ≤ 1 + ys.length := fun x hx => Nat.le_trans (le_sum hx) (foldW_ok ys).2.2.1
theorem secondW_le (ys : List Sy) : ∀ x ∈ secondW ys, x ≤ 1 + ys.length := fun x hx => by
  unfold secondW at hx
  split at hx
  · rcases List.mem_or_eq_of_mem_set hx with h | h
    · have := Nat.le_trans (le_sum h) (foldW_ok ys).2.2.2.1; omega
    · omega
  · have := Nat.le_trans (le_sum hx) (foldW_ok ys).2.2.2.1; omega
def symB (ls : List Nat) (c : Kls) : List Bool := codeBits (val ls c.num.toNat) (lenAt ls c.num) ++ bitsN (wd 32 c.bits) c.ext.toNat
def syB (la lb : List Nat) (y : Sy) : List Bool := symB la y.a ++ (if y.m = true then symB lb y.b else [])
noncomputable def lA (ys : List Sy) : List Nat := lensW (firstW ys)
noncomputable def lB (ys : List Sy) : List Nat := lensW (secondW ys)
noncomputable def blockB (ys : List Sy) : List Bool := putR (lA ys) ++ putR (lB ys) ++ ys.flatMap (syB (lA ys) (lB ys)) ++ codeBits (val (lA ys) 256) (lenAt (lA ys) 256)
theorem lA_ok (ys : List Sy) : lensOK (lA ys) := lensW_ok (by rw [firstW_len]; decide) (by rw [firstW_len]; decide) (firstW_syms ys)
theorem lB_ok {ys : List Sy} (hb : ∀ y ∈ ys, y.b.num.toNat < 30) : lensOK (lB ys) := lensW_ok (by rw [secondW_len]; decide) (by rw [secondW_len]; decide) (secondW_syms hb)
theorem putR_len {l : List Nat} (h : lensOK l) : (putR l).length ≤ 85 + l.length * 22 := by
  have hok := plens_ok h.2.2.1 h.1
  have h1 := flat_bd (partBits (plens l)) 22 (partBits_len hok) (partsL l 0)
  have h2 := putHead_len l 19
  have h3 := partsL_len l
  have h4 := Nat.mul_le_mul_right 22 h3
  unfold putR
  rw [List.length_append]
  omega
theorem symB_len {ls : List Nat} (h : lensOK ls) (c : Kls) : (symB ls c).length ≤ 47 := by
  unfold symB
  rw [List.length_append, codeBits_length, bitsN_length]
  have h1 := lens_le h c.num
  have h2 : wd 32 c.bits ≤ 32 := wd_le _ _
  omega
theorem syB_len {la lb : List Nat} (ha : lensOK la) (hb : lensOK lb) (y : Sy) : (syB la lb y).length ≤ 94 := by
  unfold syB
  have h1 := symB_len ha y.a
  have h2 := symB_len hb y.b
  rw [List.length_append]
  split
  · omega
  · rw [List.length_nil]; omega
end Go.Bn
end

section
set_option linter.unusedVariables false
set_option linter.unusedSimpArgs false
set_option maxHeartbeats 4000000
set_option maxRecDepth 20000
namespace Go.Bn
open Go Proofs
theorem bits13_ref {n m c e : Nat} {A B : Option Addr} {ls : List Nat} {k : Kls} {h0 : Heap} (hr : Rd h0 A (ls.map nV)) (hl : ls.length = n) (hs : Rd h0 B ((vals ls).map nV)) (hm : (vals ls).length = m) (hok : lensOK ls) (hk : 0 ≤ k.ext ∧ k.ext < 4294967296) (hn : 0 ≤ k.num ∧ k.num < n) :
    Ret Tryz.prog 51 [.slice A n c, .slice B m e, .agg (clsV k).toArray] h0 fun v h' => St h0.size h0 h' [row 5 1 v ((b01 (symB ls k)).map byteV)] := by
  obtain ⟨x, hx⟩ : ∃ x : Nat, k.ext = x := ⟨k.ext.toNat, by omega⟩
  obtain ⟨s, hs2⟩ : ∃ x : Nat, k.num = x := ⟨k.num.toNat, by omega⟩
  have hsl : s < ls.length := by omega
  have hle := hok.2.2.1 _ (List.getElem_mem hsl)
  have hlen := hok.2.1
  have hvb : val ls s ≤ 1099511627776 := by
    have hv2 := fst_bd hok (n := ls[s]) (by omega)
    by_cases h0 : ls[s] = 0
    · unfold val
      rw [getD_get hsl, if_pos h0]
      exact Nat.zero_le _
    · have hv := val_lt hok hsl h0
      omega
  obtain ⟨gA, oA, rfl, hcA⟩ := hr.at_ (by rw [List.length_map]; omega)
  have hci := hcA s (nV ls[s]) (by simp [hsl])
  refine ret_of_X Tryz.func51 rfl rfl fun w0 hw0 => ?_
  simp only [argE, Nat.zero_add, Nat.reduceAdd]
  have st := St.start h0
  refine X_seq ?_
  refine X_reg ?_
  refine XR_wa (opl_bx (cs := clsV k) rfl rfl) rfl rfl rfl ?_
  rintro _ hp ⟨p5, rfl, hnew⟩
  replace st := st.new hnew
  refine XR_a (op_assign rfl) rfl rfl ?_
  refine XR_nil ?_
  refine X_seq ?_
  refine X_draw byKind (by kernel_rfl) (by kernel_rfl) ?_
  refine XR_a (op_move rfl) rfl rfl ?_
  first | refine XR_a (op_field0 rfl rfl) rfl rfl ?_ | refine XR_a (op_fieldn rfl rfl) rfl rfl ?_
  refine XR_a (op_ld (st.cell 0 (i := 0) rfl rfl) rfl rfl rfl) rfl rfl ?_
  refine XR_as (nV s) (congrArg (Value.int .i64) hs2) ?_
  obtain ⟨gB, oB, rfl, hcB⟩ := hs.at_ (by rw [List.length_map, vals_length]; omega)
  have hvi : (vals ls)[s]? = some (val ls s) := by unfold vals; simp [hsl]
  have hvc := hcB s (nV (val ls s)) (by rw [List.getElem?_map, hvi]; rfl)
  rw [vals_length] at hm
  refine XR_a (op_index1 (i := s) rfl rfl rfl (by omega)) rfl rfl ?_
  refine XR_a (op_ld (cellH_ext st.low hvc) rfl rfl rfl) rfl rfl ?_
  refine XR_a (op_move rfl) rfl rfl ?_
  first | refine XR_a (op_field0 rfl rfl) rfl rfl ?_ | refine XR_a (op_fieldn rfl rfl) rfl rfl ?_
  refine XR_a (op_ld (st.cell 0 (i := 0) rfl rfl) rfl rfl rfl) rfl rfl ?_
  refine XR_as (nV s) (congrArg (Value.int .i64) hs2) ?_
  refine XR_a (op_index1 (i := s) rfl rfl rfl (by omega)) rfl rfl ?_
  refine XR_a (op_ld (cellH_ext st.low hci) rfl rfl rfl) rfl rfl ?_
  refine XR_wa (opl_call (bits08_ref (z := val ls s) (n := ls[s]) hvb (by omega)) rfl (by kernel_rfl)) rfl rfl rfl ?_
  rintro v6 hp6 st6
  replace st := st.join st6
  simp only [List.cons_append, List.nil_append] at st
  clear st6
  obtain ⟨A7, n7, c7, rfl, hl7, _⟩ := st.row 0 rfl
  refine XR_a (op_assign rfl) rfl rfl ?_
  refine XR_nil ?_
  refine X_seq ?_
  refine X_reg ?_
  refine XR_a (op_move rfl) rfl rfl ?_
  first | refine XR_a (op_field0 rfl rfl) rfl rfl ?_ | refine XR_a (op_fieldn rfl rfl) rfl rfl ?_
  refine XR_a (op_ld (st.cell 1 (i := 2) rfl rfl) rfl rfl rfl) rfl rfl ?_
  refine XR_as (.int .u32 ((x : Nat) : Int)) (congrArg (Value.int .u32) hx) ?_
  first | refine XR_a (op_field0 rfl rfl) rfl rfl ?_ | refine XR_a (op_fieldn rfl rfl) rfl rfl ?_
  refine XR_a (op_ld (st.cell 1 (i := 1) rfl rfl) rfl rfl rfl) rfl rfl ?_
  refine XR_wa (opl_call (brow_ref (n := x) (by omega)) rfl (by kernel_rfl)) rfl rfl rfl ?_
  rintro v8 hp8 st8
  replace st := st.join st8
  simp only [List.cons_append, List.nil_append] at st
  clear st8
  obtain ⟨A8, n8, c8, rfl, hl8, _, _, hr8⟩ := st.row 0 rfl
  have hw := wd_le 32 k.bits
  refine XR_wa (opl_append st 1 rfl (hr8) (by rw [List.length_map, b01_length] at hl8 ⊢; omega) (one_bytes _) (by simp only [List.length_map, b01_length, codeBits_length, bitsN_length]; omega) rfl rfl rfl rfl rfl rfl rfl) rfl rfl rfl fun v hp st => ?_
  simp only [List.set_cons_zero, List.set_cons_succ] at st
  refine XR_a (op_assign rfl) rfl rfl ?_
  refine XR_nil ?_
  refine X_ret (.cons (.tmp rfl) .nil) ?_
  have he : b01 (codeBits (val ls s) ls[s]) ++ b01 (bitsN (wd 32 k.bits) x) = b01 (symB ls k) := by
    have hge : lenAt ls k.num = ls[s] := by
      unfold lenAt
      rw [hs2, if_neg (by omega), Int.toNat_natCast]
      exact getD_get hsl
    unfold symB
    rw [hge, hs2, hx, Int.toNat_natCast, Int.toNat_natCast]
    unfold b01
    rw [List.map_append]
  rw [← List.map_append, he] at st
  exact (St.re st 3 [0, 2, 1] (by decide)).tail.tail
end Go.Bn
end
