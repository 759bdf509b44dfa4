/- Packed texts of a claim: what its theorem uses, joined. -/
import Derived.Test.YtoodeecmplpndaaPkS7x15
import Derived.Test.YtoodeecmplpndaaPkS7x17
section
set_option linter.unusedVariables false
set_option linter.unusedSimpArgs false
set_option maxHeartbeats 4000000
set_option maxRecDepth 20000
namespace Go.Bn
open Go Proofs
theorem part_steps (x k a y : Nat) : (if x = 0 ∧ 11 ≤ k then (18, min k 138) else if x = 0 ∧ 3 ≤ k then (17, k) else if 0 < a ∧ x = y ∧ 3 ≤ k then (16, min k 6) else (x, 1))
  = if x ≠ 0 ∧ 0 < a ∧ y = x ∧ 3 ≤ k then (16, min k 6)
   else if x = 0 ∧ 139 ≤ k then ((if x = 0 ∧ 11 ≤ k then (18, k) else if x = 0 ∧ 3 ≤ k then (17, k) else (x, 1)).1, 138)
   else if x = 0 ∧ 11 ≤ k then (18, k) else if x = 0 ∧ 3 ≤ k then (17, k) else (x, 1) := by
 by_cases c0 : x = 0
 ·by_cases c1 : 11 ≤ k
  ·by_cases c2 : 139 ≤ k
   ·simp only [if_pos (And.intro c0 c1), if_pos (And.intro c0 c2)]
    rw [if_neg (fun h => h.1 c0), Nat.min_eq_right (by omega)]
   ·simp only [if_pos (And.intro c0 c1)]
    rw [if_neg (fun h => h.1 c0), if_neg (fun h => c2 h.2), Nat.min_eq_left (by omega)]
  ·have n1 : ¬ (x = 0 ∧ 11 ≤ k) := fun h => c1 h.2
   have n2 : ¬ (x = 0 ∧ 139 ≤ k) := fun h => by omega
   have n3 : ¬ (x ≠ 0 ∧ 0 < a ∧ y = x ∧ 3 ≤ k) := fun h => h.1 c0
   simp only [if_neg n1, if_neg n2, if_neg n3]
   by_cases c3 : 3 ≤ k
   ·simp only [if_pos (And.intro c0 c3)]
   ·rw [if_neg (fun h => c3 h.2), if_neg (fun h => c3 h.2.2), if_neg (fun h => c3 h.2)]
 ·have n1 : ¬ (x = 0 ∧ 11 ≤ k) := fun h => c0 h.1
  have n2 : ¬ (x = 0 ∧ 139 ≤ k) := fun h => c0 h.1
  have n3 : ¬ (x = 0 ∧ 3 ≤ k) := fun h => c0 h.1
  simp only [if_neg n1, if_neg n2, if_neg n3]
  by_cases c2 : 0 < a ∧ x = y ∧ 3 ≤ k
  ·rw [if_pos c2, if_pos ⟨c0, c2.1, c2.2.1.symm, c2.2.2⟩]
  ·rw [if_neg c2, if_neg (fun h => c2 ⟨h.2.1, h.2.2.1.symm, h.2.2.2⟩)]
theorem parts_ref {n c : Nat} {A : Option Addr} {l : List Nat} {h0 : Heap} (hr : Rd h0 A (l.map nV)) (hl : l.length = n) (hn : n ≤ 1048576) :
  Ret Try.prog 71 [.slice A n c] h0 fun v h' => St h0.size h0 h' [row 139 2 v ((partsL l 0).flatMap pC2)] := by
 refine ret_of_X Try.func71 rfl rfl fun w0 hw0 => ?_
 simp only [argE, Nat.zero_add, Nat.reduceAdd]
 refine X_seq (X_reg (XA rfl rfl rfl (XR_nil (X_seq (X_reg (XA rfl rfl rfl (XR_nil (X_seq (X_reg ?_)))))))))
 refine XA rfl rfl rfl (XR_nil (X_seq (X_block ?_)))
 have st := (St.start h0).nilrow 139 2
 refine X_loop (fun s => n - s.1) (fun s => [(0, .slice A n c), (3, s.2.1), (4, nV s.1)])
  (fun (s : Nat × Value × List (Nat × Nat)) hp => s.1 ≤ n ∧ s.2.2.length ≤ s.1 ∧ s.2.2 ++ partsL l s.1 = partsL l 0 ∧ St h0.size h0 hp [row 139 2 s.2.1 (s.2.2.flatMap pC2)])
  (0, _, []) (.cons rfl (.cons rfl (.cons rfl (.nil _)))) ⟨Nat.zero_le _, Nat.zero_le _, rfl, st⟩ ?_
 clear st
 rintro ⟨a, v, s⟩ hp ⟨ha, hsl, hs, st⟩
 simp only at ha hsl hs st ⊢
 refine X_seq (X_seq (X_reg (XV rfl rfl rfl (XV rfl rfl rfl ?_))))
 refine XR_a (op_len rfl rfl rfl) rfl rfl ?_
 refine XR_a (op_lss rfl rfl) rfl rfl ?_
 refine XR_nil ?_
 refine X_if rfl (fun h => ?_) (fun h => ?_)
 ·refine X_skip (X_block (X_seq (X_reg (XA rfl rfl rfl (XR_nil (X_seq (X_block ?_)))))))
  have han : a < n := by omega
  have hrl := runAt_le l a
  have hrp := runAt_pos (l := l) (at_ := a) (by omega)
  have hpm := partAt_many (l := l) (at_ := a) (by omega)
  rw [partsL_cons (by omega)] at hs
  obtain ⟨g, o, rfl, hc⟩ := hr.at_ (by rw [List.length_map]; omega)
  have hci : ∀ {hp : Heap}, Ext h0 hp → ∀ i, i < n → cellH hp ⟨g, o + i, none⟩ = some (nV (l.getD i 0)) := fun hx i hi => cellH_ext (a := ⟨g, o + i, none⟩) hx (hc i _ (by rw [List.getElem?_map, List.getElem?_eq_getElem (by omega), getD_get (by omega)]; rfl))
  have h01 : ∀ i, i < 1 → l.getD (a + i) 0 = l.getD a 0 := fun i hi => by
   have h0 : i = 0 := by omega
   subst h0
   rfl
  refine X_loop (fun k => n - k) (fun k => [(0, .slice (some ⟨g, o, none⟩) n c), (3, v), (4, nV a), (5, nV k)])
   (fun (k : Nat) hp' => hp' = hp ∧ 1 ≤ k ∧ a + k ≤ n ∧ ∀ i, i < k → l.getD (a + i) 0 = l.getD a 0)
   1 (.cons rfl (.cons rfl (.cons rfl (.cons rfl (.nil _))))) ⟨rfl, Nat.le_refl _, by omega, h01⟩ ?_
  rintro k hp2 ⟨rfl, hk1, hk, hall⟩
  have hfin : (n ≤ a + k ∨ l.getD (a + k) 0 ≠ l.getD a 0) → runAt l a = k := fun h => by
   unfold runAt
   refine eqRun_is (by rw [List.length_drop]; omega) (fun i hi => by rw [getD_drop]; exact hall i hi) ?_
   rw [List.length_drop, getD_drop]
   rcases h with h | h
   ·left; omega
   ·exact .inr h
  refine X_seq (X_seq ?_)
  refine X_draw byKind (by kernel_rfl) (by kernel_rfl) ?_
  refine XV rfl rfl rfl (XV rfl rfl rfl ?_)
  first | refine XR_a (op_addN rfl rfl (by simp only [inK]; omega)) rfl rfl ?_ | refine XR_a (op_addI rfl rfl (by simp only [inK]; omega)) rfl rfl ?_ | refine XR_a (op_add rfl rfl) rfl rfl ?_
  refine XV rfl rfl rfl ?_
  refine XR_a (op_len rfl rfl rfl) rfl rfl ?_
  refine XR_a (op_lss rfl rfl) rfl rfl ?_
  refine XV rfl rfl rfl ?_
  refine XR_if 17 rfl (fun h => ?_) (fun h => ?_)
  ·have h17 := h
   refine XV rfl rfl rfl (XV rfl rfl rfl (XV rfl rfl rfl ?_))
   first | refine XR_a (op_addN rfl rfl (by simp only [inK]; omega)) rfl rfl ?_ | refine XR_a (op_addI rfl rfl (by simp only [inK]; omega)) rfl rfl ?_ | refine XR_a (op_add rfl rfl) rfl rfl ?_
   refine XR_a (op_index1 (i := a + k) rfl rfl rfl (by omega)) rfl rfl ?_
   refine XR_a (op_ld (hci st.low (a + k) (by omega)) rfl rfl rfl) rfl rfl ?_
   refine XV rfl rfl rfl (XV rfl rfl rfl ?_)
   first | refine XR_a (op_index1 rfl rfl rfl (by omega)) rfl rfl ?_ | refine XR_a (op_index rfl rfl rfl (by omega)) rfl rfl ?_
   refine XR_a (op_ld (hci st.low a (by omega)) rfl rfl rfl) rfl rfl ?_
   refine XR_a (op_eql rfl rfl) rfl rfl ?_
   refine XR_a (op_pick_t rfl rfl) rfl rfl (XR_nil ?_)
   refine X_if rfl (fun h => ?_) (fun h => ?_)
   ·refine X_skip (X_block (X_reg (XV rfl rfl rfl ?_)))
    first | refine XR_a (op_addN (n := 1) rfl rfl (by simp only [inK]; omega)) rfl rfl ?_ | refine XR_a (op_addI rfl rfl (by simp only [inK]; omega)) rfl rfl ?_ | refine XR_a (op_add rfl rfl) rfl rfl ?_
    refine XA rfl rfl rfl (XR_nil (X_blk ?_))
    exact X_again (k + 1) (.cons rfl (.cons rfl (.cons rfl (.cons rfl (.nil _))))) ⟨rfl, by omega, by omega, fun i (hi : i < k + 1) => by
     rcases Nat.lt_or_ge i k with h9 | h9
     ·exact hall i h9
     ·obtain rfl : i = k := by omega
      omega⟩ (by omega)
   ·refine X_exit rfl (X_seq ?_)
    have hrk : runAt l a = k := hfin (.inr (by omega))
    refine X_reg (XV rfl rfl rfl (XV rfl rfl rfl ?_))
    first | refine XR_a (op_index1 rfl rfl rfl (by omega)) rfl rfl ?_ | refine XR_a (op_index rfl rfl rfl (by omega)) rfl rfl ?_
    refine XR_a (op_ld (hci st.low a (by omega)) rfl rfl rfl) rfl rfl ?_
    refine XR_a (op_build (ps := [(0, nV (l.getD a 0)), (1, nV 1)]) (cs := #[nV (l.getD a 0), nV 1]) rfl rfl) rfl rfl ?_
    refine XR_wa (opl_new rfl) rfl rfl rfl ?_
    rintro _ hp ⟨p6, rfl, hnew⟩
    have st := st.new hnew
    refine XR_wn (opl_store_whole (us := pC2 (l.getD a 0, 1)) st 0 rfl rfl rfl rfl rfl (one_pC2 _) rfl) rfl rfl fun _ hp st => ?_
    simp only [List.set_cons_zero] at st
    refine XR_nil (X_seq ?_)
    obtain ⟨x, hx⟩ : ∃ x, l.getD a 0 = x := ⟨_, rfl⟩
    obtain ⟨q1, hq1⟩ : ∃ q : Nat × Nat, q = if x = 0 ∧ 3 ≤ k then (17, k) else (x, 1) := ⟨_, rfl⟩
    obtain ⟨q2, hq2⟩ : ∃ q : Nat × Nat, q = if x = 0 ∧ 11 ≤ k then (18, k) else q1 := ⟨_, rfl⟩
    obtain ⟨q3, hq3⟩ : ∃ q : Nat × Nat, q = if x = 0 ∧ 139 ≤ k then (q2.1, 138) else q2 := ⟨_, rfl⟩
    obtain ⟨q4, hq4⟩ : ∃ q : Nat × Nat, q = if x ≠ 0 ∧ 0 < a ∧ l.getD (a - 1) 0 = x ∧ 3 ≤ k then (16, min k 6) else q3 := ⟨_, rfl⟩
    have hP4 : partAt l a = q4 := by
     unfold partAt
     rw [hrk, hx, hq4, hq3, hq2, hq1]
     exact part_steps x k a _
    rw [hx] at st
    refine X_cut (fun (_ : Unit) => [(0, .slice (some ⟨g, o, none⟩) n c), (3, v), (4, nV a), (5, nV k), (6, .pointer (some ⟨p6, 0, none⟩))])
     (fun (_ : Unit) hp' => St h0.size h0 hp' [pt p6 139 (pC2 q1), row 139 2 v (s.flatMap pC2)]) ?_ ?_
    ·refine X_seq (X_reg (XV rfl rfl rfl (XV rfl rfl rfl ?_)))
     first | refine XR_a (op_index1 rfl rfl rfl (by omega)) rfl rfl ?_ | refine XR_a (op_index rfl rfl rfl (by omega)) rfl rfl ?_
     refine XR_a (op_ld (hci st.low a (by omega)) rfl rfl rfl) rfl rfl ?_
     rw [hx]
     refine XR_a (op_eql rfl rfl) rfl rfl ?_
     refine XV rfl rfl rfl ?_
     refine XR_if 42 rfl (fun h => ?_) (fun h => ?_)
     ·have h42 := h
      refine XV rfl rfl rfl ?_
      refine XR_a (op_gtr rfl rfl) rfl rfl ?_
      refine XR_a (op_pick_t rfl rfl) rfl rfl (XR_nil ?_)
      refine X_if rfl (fun h => ?_) (fun h => ?_)
      ·refine X_reg (XV rfl rfl rfl ?_)
       refine XR_a (op_build (ps := [(0, nV 17), (1, nV k)]) (cs := #[nV 17, nV k]) rfl rfl) rfl rfl ?_
       refine XR_wn (opl_store_whole (us := pC2 (17, k)) st 0 rfl rfl rfl rfl rfl (one_pC2 _) rfl) rfl rfl fun _ hp st => ?_
       simp only [List.set_cons_zero] at st
       refine XR_nil ?_
       exact X_meet () (.cons rfl (.cons rfl (.cons rfl (.cons rfl (.cons rfl (.nil _)))))) (by rw [hq1, if_pos (by omega)]; exact st)
      ·refine X_skip ?_
       exact X_meet () (.cons rfl (.cons rfl (.cons rfl (.cons rfl (.cons rfl (.nil _)))))) (by rw [hq1, if_neg (by omega)]; exact st)
     ·have h42 := h
      refine XR_no rfl rfl (XR_no rfl rfl (XR_a (op_pick_f rfl rfl) rfl rfl (XR_nil (X_else rfl (X_skip ?_)))))
      exact X_meet () (.cons rfl (.cons rfl (.cons rfl (.cons rfl (.cons rfl (.nil _)))))) (by rw [hq1, if_neg (by omega)]; exact st)
    rintro ⟨⟩ hp5 st
    refine X_seq ?_
    refine X_cut (fun (_ : Unit) => [(0, .slice (some ⟨g, o, none⟩) n c), (3, v), (4, nV a), (5, nV k), (6, .pointer (some ⟨p6, 0, none⟩))])
     (fun (_ : Unit) hp' => St h0.size h0 hp' [pt p6 139 (pC2 q2), row 139 2 v (s.flatMap pC2)]) ?_ ?_
    ·refine X_seq (X_reg (XV rfl rfl rfl (XV rfl rfl rfl ?_)))
     first | refine XR_a (op_index1 rfl rfl rfl (by omega)) rfl rfl ?_ | refine XR_a (op_index rfl rfl rfl (by omega)) rfl rfl ?_
     refine XR_a (op_ld (hci st.low a (by omega)) rfl rfl rfl) rfl rfl ?_
     rw [hx]
     refine XR_a (op_eql rfl rfl) rfl rfl ?_
     refine XV rfl rfl rfl ?_
     refine XR_if 53 rfl (fun h => ?_) (fun h => ?_)
     ·have h53 := h
      refine XV rfl rfl rfl ?_
      refine XR_a (op_gtr rfl rfl) rfl rfl ?_
      refine XR_a (op_pick_t rfl rfl) rfl rfl (XR_nil ?_)
      refine X_if rfl (fun h => ?_) (fun h => ?_)
      ·refine X_reg (XV rfl rfl rfl ?_)
       refine XR_a (op_build (ps := [(0, nV 18), (1, nV k)]) (cs := #[nV 18, nV k]) rfl rfl) rfl rfl ?_
       refine XR_wn (opl_store_whole (us := pC2 (18, k)) st 0 rfl rfl rfl rfl rfl (one_pC2 _) rfl) rfl rfl fun _ hp st => ?_
       simp only [List.set_cons_zero] at st
       refine XR_nil ?_
       exact X_meet () (.cons rfl (.cons rfl (.cons rfl (.cons rfl (.cons rfl (.nil _)))))) (by rw [hq2, if_pos (by omega)]; exact st)
      ·refine X_skip ?_
       exact X_meet () (.cons rfl (.cons rfl (.cons rfl (.cons rfl (.cons rfl (.nil _)))))) (by rw [hq2, if_neg (by omega)]; exact st)
     ·have h53 := h
      refine XR_no rfl rfl (XR_no rfl rfl (XR_a (op_pick_f rfl rfl) rfl rfl (XR_nil (X_else rfl (X_skip ?_)))))
      exact X_meet () (.cons rfl (.cons rfl (.cons rfl (.cons rfl (.cons rfl (.nil _)))))) (by rw [hq2, if_neg (by omega)]; exact st)
    rintro ⟨⟩ hp6 st
    refine X_seq ?_
    refine X_cut (fun (_ : Unit) => [(0, .slice (some ⟨g, o, none⟩) n c), (3, v), (4, nV a), (5, nV k), (6, .pointer (some ⟨p6, 0, none⟩))])
     (fun (_ : Unit) hp' => St h0.size h0 hp' [pt p6 139 (pC2 q3), row 139 2 v (s.flatMap pC2)]) ?_ ?_
    ·refine X_seq (X_reg (XV rfl rfl rfl ?_))
     refine XR_a (op_gtr rfl rfl) rfl rfl ?_
     refine XV rfl rfl rfl ?_
     refine XR_if 61 rfl (fun h => ?_) (fun h => ?_)
     ·have h61 := h
      refine XV rfl rfl rfl (XV rfl rfl rfl ?_)
      first | refine XR_a (op_index1 rfl rfl rfl (by omega)) rfl rfl ?_ | refine XR_a (op_index rfl rfl rfl (by omega)) rfl rfl ?_
      refine XR_a (op_ld (hci st.low a (by omega)) rfl rfl rfl) rfl rfl ?_
      rw [hx]
      refine XR_a (op_eql rfl rfl) rfl rfl ?_
      refine XR_a (op_pick_t rfl rfl) rfl rfl (XR_nil ?_)
      refine X_if rfl (fun h => ?_) (fun h => ?_)
      ·refine X_reg ?_
       first | refine XR_a (op_field0 rfl rfl) rfl rfl ?_ | refine XR_a (op_fieldn rfl rfl) rfl rfl ?_
       refine XR_wn (opl_store_pt (v := nV 138) st 0 rfl rfl rfl rfl rfl rfl) rfl rfl fun _ hp st => ?_
       simp only [List.set_cons_zero] at st
       refine XR_nil ?_
       exact X_meet () (.cons rfl (.cons rfl (.cons rfl (.cons rfl (.cons rfl (.nil _)))))) (by rw [hq3, if_pos (by omega)]; exact st)
      ·refine X_skip ?_
       exact X_meet () (.cons rfl (.cons rfl (.cons rfl (.cons rfl (.cons rfl (.nil _)))))) (by rw [hq3, if_neg (by omega)]; exact st)
     ·have h61 := h
      refine XR_no rfl rfl (XR_no rfl rfl (XR_no rfl rfl (XR_no rfl rfl (XR_no rfl rfl (XR_a (op_pick_f rfl rfl) rfl rfl (XR_nil (X_else rfl (X_skip ?_))))))))
      exact X_meet () (.cons rfl (.cons rfl (.cons rfl (.cons rfl (.cons rfl (.nil _)))))) (by rw [hq3, if_neg (by omega)]; exact st)
    rintro ⟨⟩ hp7 st
    refine X_seq ?_
    refine X_cut (fun (_ : Unit) => [(0, .slice (some ⟨g, o, none⟩) n c), (3, v), (4, nV a), (5, nV k), (6, .pointer (some ⟨p6, 0, none⟩))])
     (fun (_ : Unit) hp' => St h0.size h0 hp' [pt p6 139 (pC2 q4), row 139 2 v (s.flatMap pC2)]) ?_ ?_
    ·refine X_seq ?_
     refine X_draw byKind (by kernel_rfl) (by kernel_rfl) ?_
     refine XV rfl rfl rfl (XV rfl rfl rfl ?_)
     first | refine XR_a (op_index1 rfl rfl rfl (by omega)) rfl rfl ?_ | refine XR_a (op_index rfl rfl rfl (by omega)) rfl rfl ?_
     refine XR_a (op_ld (hci st.low a (by omega)) rfl rfl rfl) rfl rfl ?_
     rw [hx]
     refine XR_a (op_neq rfl rfl) rfl rfl ?_
     refine XV rfl rfl rfl ?_
     refine XR_if 74 rfl (fun h => ?_) (fun h => ?_)
     ·have h74 := h
      refine XV rfl rfl rfl ?_
      refine XR_a (op_gtr rfl rfl) rfl rfl ?_
      refine XR_a (op_pick_t rfl rfl) rfl rfl (XV rfl rfl rfl ?_)
      refine XR_if 78 rfl (fun h => ?_) (fun h => ?_)
      ·have h78 := h
       refine XV rfl rfl rfl (XV rfl rfl rfl ?_)
       first | refine XR_a (op_subN (n := 1) rfl rfl (by omega) (by simp only [inK]; omega)) rfl rfl ?_ | refine XR_a (op_subI rfl rfl (by simp only [inK]; omega)) rfl rfl ?_ | refine XR_a (op_sub rfl rfl) rfl rfl ?_
       refine XR_a (op_index1 (i := a - 1) rfl rfl rfl (by omega)) rfl rfl ?_
       refine XR_a (op_ld (hci st.low (a - 1) (by omega)) rfl rfl rfl) rfl rfl ?_
       refine XV rfl rfl rfl (XV rfl rfl rfl ?_)
       first | refine XR_a (op_index1 rfl rfl rfl (by omega)) rfl rfl ?_ | refine XR_a (op_index rfl rfl rfl (by omega)) rfl rfl ?_
       refine XR_a (op_ld (hci st.low a (by omega)) rfl rfl rfl) rfl rfl ?_
       rw [hx]
       refine XR_a (op_eql rfl rfl) rfl rfl ?_
       refine XR_a (op_pick_t rfl rfl) rfl rfl (XV rfl rfl rfl ?_)
       refine XR_if 90 rfl (fun h => ?_) (fun h => ?_)
       ·have h90 := h
        refine XV rfl rfl rfl ?_
        refine XR_a (op_gtr rfl rfl) rfl rfl ?_
        refine XR_a (op_pick_t rfl rfl) rfl rfl (XR_nil ?_)
        refine X_if rfl (fun h => ?_) (fun h => ?_)
        ·have h6 := h
         refine X_seq (X_reg (XV rfl rfl rfl ?_))
         refine XR_a (op_build (ps := [(0, nV 16), (1, nV k)]) (cs := #[nV 16, nV k]) rfl rfl) rfl rfl ?_
         refine XR_wn (opl_store_whole (us := pC2 (16, k)) st 0 rfl rfl rfl rfl rfl (one_pC2 _) rfl) rfl rfl fun _ hp st => ?_
         simp only [List.set_cons_zero] at st
         refine XR_nil (X_seq (X_reg (XV rfl rfl rfl ?_)))
         refine XR_a (op_gtr rfl rfl) rfl rfl ?_
         refine XR_nil ?_
         refine X_if rfl (fun h => ?_) (fun h => ?_)
         ·refine X_reg ?_
          first | refine XR_a (op_field0 rfl rfl) rfl rfl ?_ | refine XR_a (op_fieldn rfl rfl) rfl rfl ?_
          refine XR_wn (opl_store_pt (v := nV 6) st 0 rfl rfl rfl rfl rfl rfl) rfl rfl fun _ hp st => ?_
          simp only [List.set_cons_zero] at st
          refine XR_nil ?_
          exact X_meet () (.cons rfl (.cons rfl (.cons rfl (.cons rfl (.cons rfl (.nil _)))))) (by rw [hq4, if_pos (by omega), Nat.min_eq_right (by omega)]; exact st)
         ·refine X_skip ?_
          exact X_meet () (.cons rfl (.cons rfl (.cons rfl (.cons rfl (.cons rfl (.nil _)))))) (by rw [hq4, if_pos (by omega), Nat.min_eq_left (by omega)]; exact st)
        ·have h6 := h
         refine X_skip ?_
         exact X_meet () (.cons rfl (.cons rfl (.cons rfl (.cons rfl (.cons rfl (.nil _)))))) (by rw [hq4, if_neg (by omega)]; exact st)
       ·have h90 := h
        refine XR_no rfl rfl (XR_no rfl rfl (XR_a (op_pick_f rfl rfl) rfl rfl (XR_nil (X_else rfl (X_skip ?_)))))
        exact X_meet () (.cons rfl (.cons rfl (.cons rfl (.cons rfl (.cons rfl (.nil _)))))) (by rw [hq4, if_neg (by omega)]; exact st)
      ·have h78 := h
       refine XR_no rfl rfl (XR_no rfl rfl (XR_no rfl rfl (XR_no rfl rfl (XR_no rfl rfl (XR_no rfl rfl (XR_no rfl rfl (XR_no rfl rfl (XR_no rfl rfl (XR_no rfl rfl ?_)))))))))
       refine XR_a (op_pick_f rfl rfl) rfl rfl (XV rfl rfl rfl (XR_no rfl rfl (XR_no rfl rfl (XR_a (op_pick_f rfl rfl) rfl rfl (XR_nil (X_else rfl (X_skip ?_)))))))
       exact X_meet () (.cons rfl (.cons rfl (.cons rfl (.cons rfl (.cons rfl (.nil _)))))) (by rw [hq4, if_neg (by omega)]; exact st)
     ·have h74 := h
      refine XR_no rfl rfl (XR_no rfl rfl (XR_a (op_pick_f rfl rfl) rfl rfl (XV rfl rfl rfl (XR_no rfl rfl (XR_no rfl rfl (XR_no rfl rfl (XR_no rfl rfl (XR_no rfl rfl (XR_no rfl rfl ?_)))))))))
      refine XR_no rfl rfl (XR_no rfl rfl (XR_no rfl rfl (XR_no rfl rfl (XR_a (op_pick_f rfl rfl) rfl rfl (XV rfl rfl rfl (XR_no rfl rfl (XR_no rfl rfl (XR_a (op_pick_f rfl rfl) rfl rfl (XR_nil ?_)))))))))
      refine X_else rfl (X_skip ?_)
      exact X_meet () (.cons rfl (.cons rfl (.cons rfl (.cons rfl (.cons rfl (.nil _)))))) (by rw [hq4, if_neg (by omega)]; exact st)
    rintro ⟨⟩ hp8 st
    rw [hP4] at hs hpm
    refine X_seq (X_reg (XV rfl rfl rfl ?_))
    refine XR_a (op_ldA (vs := pC2 q4) (st.cells 0 rfl) rfl rfl rfl rfl) rfl rfl ?_
    refine XR_wa (opl_varA (us := pC2 q4) rfl rfl rfl rfl (by kernel_rfl)) rfl rfl rfl ?_
    rintro _ hp ⟨A9, rfl, hx9, hrd⟩
    replace st := st.ext hx9
    refine XR_wa (opl_append st 1 rfl (hrd) (rfl) (one_pC2 q4) (by rw [flat_length _ 2 (fun _ => rfl)]; simp [pC2]; omega) rfl rfl rfl rfl rfl rfl rfl) rfl rfl rfl fun v hp st => ?_
    simp only [List.set_cons_zero, List.set_cons_succ] at st
    have e2 : s.flatMap pC2 ++ pC2 q4 = (s ++ [q4]).flatMap pC2 := by rw [List.flatMap_append]; simp
    rw [e2] at st
    refine XA rfl rfl rfl (XR_nil (X_reg (XV rfl rfl rfl ?_)))
    first | refine XR_a (op_field0 rfl rfl) rfl rfl ?_ | refine XR_a (op_fieldn rfl rfl) rfl rfl ?_
    refine XR_a (op_ld (st.cell 0 (i := 1) rfl rfl) rfl rfl rfl) rfl rfl ?_
    first | refine XR_a (op_addN rfl rfl (by simp only [inK]; omega)) rfl rfl ?_ | refine XR_a (op_addI rfl rfl (by simp only [inK]; omega)) rfl rfl ?_ | refine XR_a (op_add rfl rfl) rfl rfl ?_
    refine XA rfl rfl rfl (XR_nil (X_blk ?_))
    exact X_again (a + q4.2, v, s ++ [q4]) (.cons rfl (.cons rfl (.cons rfl (.nil _)))) ⟨by simp only; omega, by simp only [List.length_append, List.length_cons, List.length_nil]; omega, by simp only; rw [List.append_assoc]; exact hs, st.tail⟩ (by simp only; omega)
  ·have h17 := h
   refine XR_no rfl rfl (XR_no rfl rfl (XR_no rfl rfl (XR_no rfl rfl (XR_no rfl rfl (XR_no rfl rfl (XR_no rfl rfl (XR_no rfl rfl (XR_no rfl rfl (XR_no rfl rfl ?_)))))))))
   refine XR_no rfl rfl (XR_a (op_pick_f rfl rfl) rfl rfl (XR_nil (X_else rfl (X_exit rfl (X_seq ?_)))))
   have hrk : runAt l a = k := hfin (.inl (by omega))
   refine X_reg (XV rfl rfl rfl (XV rfl rfl rfl ?_))
   first | refine XR_a (op_index1 rfl rfl rfl (by omega)) rfl rfl ?_ | refine XR_a (op_index rfl rfl rfl (by omega)) rfl rfl ?_
   refine XR_a (op_ld (hci st.low a (by omega)) rfl rfl rfl) rfl rfl ?_
   refine XR_a (op_build (ps := [(0, nV (l.getD a 0)), (1, nV 1)]) (cs := #[nV (l.getD a 0), nV 1]) rfl rfl) rfl rfl ?_
   refine XR_wa (opl_new rfl) rfl rfl rfl ?_
   rintro _ hp ⟨p6, rfl, hnew⟩
   have st := st.new hnew
   refine XR_wn (opl_store_whole (us := pC2 (l.getD a 0, 1)) st 0 rfl rfl rfl rfl rfl (one_pC2 _) rfl) rfl rfl fun _ hp st => ?_
   simp only [List.set_cons_zero] at st
   refine XR_nil (X_seq ?_)
   obtain ⟨x, hx⟩ : ∃ x, l.getD a 0 = x := ⟨_, rfl⟩
   obtain ⟨q1, hq1⟩ : ∃ q : Nat × Nat, q = if x = 0 ∧ 3 ≤ k then (17, k) else (x, 1) := ⟨_, rfl⟩
   obtain ⟨q2, hq2⟩ : ∃ q : Nat × Nat, q = if x = 0 ∧ 11 ≤ k then (18, k) else q1 := ⟨_, rfl⟩
   obtain ⟨q3, hq3⟩ : ∃ q : Nat × Nat, q = if x = 0 ∧ 139 ≤ k then (q2.1, 138) else q2 := ⟨_, rfl⟩
   obtain ⟨q4, hq4⟩ : ∃ q : Nat × Nat, q = if x ≠ 0 ∧ 0 < a ∧ l.getD (a - 1) 0 = x ∧ 3 ≤ k then (16, min k 6) else q3 := ⟨_, rfl⟩
   have hP4 : partAt l a = q4 := by
    unfold partAt
    rw [hrk, hx, hq4, hq3, hq2, hq1]
    exact part_steps x k a _
   rw [hx] at st
   refine X_cut (fun (_ : Unit) => [(0, .slice (some ⟨g, o, none⟩) n c), (3, v), (4, nV a), (5, nV k), (6, .pointer (some ⟨p6, 0, none⟩))])
    (fun (_ : Unit) hp' => St h0.size h0 hp' [pt p6 139 (pC2 q1), row 139 2 v (s.flatMap pC2)]) ?_ ?_
   ·refine X_seq (X_reg (XV rfl rfl rfl (XV rfl rfl rfl ?_)))
    first | refine XR_a (op_index1 rfl rfl rfl (by omega)) rfl rfl ?_ | refine XR_a (op_index rfl rfl rfl (by omega)) rfl rfl ?_
    refine XR_a (op_ld (hci st.low a (by omega)) rfl rfl rfl) rfl rfl ?_
    rw [hx]
    refine XR_a (op_eql rfl rfl) rfl rfl ?_
    refine XV rfl rfl rfl ?_
    refine XR_if 42 rfl (fun h => ?_) (fun h => ?_)
    ·have h42 := h
     refine XV rfl rfl rfl ?_
     refine XR_a (op_gtr rfl rfl) rfl rfl ?_
     refine XR_a (op_pick_t rfl rfl) rfl rfl (XR_nil ?_)
     refine X_if rfl (fun h => ?_) (fun h => ?_)
     ·refine X_reg (XV rfl rfl rfl ?_)
      refine XR_a (op_build (ps := [(0, nV 17), (1, nV k)]) (cs := #[nV 17, nV k]) rfl rfl) rfl rfl ?_
      refine XR_wn (opl_store_whole (us := pC2 (17, k)) st 0 rfl rfl rfl rfl rfl (one_pC2 _) rfl) rfl rfl fun _ hp st => ?_
      simp only [List.set_cons_zero] at st
      refine XR_nil ?_
      exact X_meet () (.cons rfl (.cons rfl (.cons rfl (.cons rfl (.cons rfl (.nil _)))))) (by rw [hq1, if_pos (by omega)]; exact st)
     ·refine X_skip ?_
      exact X_meet () (.cons rfl (.cons rfl (.cons rfl (.cons rfl (.cons rfl (.nil _)))))) (by rw [hq1, if_neg (by omega)]; exact st)
    ·have h42 := h
     refine XR_no rfl rfl (XR_no rfl rfl (XR_a (op_pick_f rfl rfl) rfl rfl (XR_nil (X_else rfl (X_skip ?_)))))
     exact X_meet () (.cons rfl (.cons rfl (.cons rfl (.cons rfl (.cons rfl (.nil _)))))) (by rw [hq1, if_neg (by omega)]; exact st)
   rintro ⟨⟩ hp5 st
   refine X_seq ?_
   refine X_cut (fun (_ : Unit) => [(0, .slice (some ⟨g, o, none⟩) n c), (3, v), (4, nV a), (5, nV k), (6, .pointer (some ⟨p6, 0, none⟩))])
    (fun (_ : Unit) hp' => St h0.size h0 hp' [pt p6 139 (pC2 q2), row 139 2 v (s.flatMap pC2)]) ?_ ?_
   ·refine X_seq (X_reg (XV rfl rfl rfl (XV rfl rfl rfl ?_)))
    first | refine XR_a (op_index1 rfl rfl rfl (by omega)) rfl rfl ?_ | refine XR_a (op_index rfl rfl rfl (by omega)) rfl rfl ?_
    refine XR_a (op_ld (hci st.low a (by omega)) rfl rfl rfl) rfl rfl ?_
    rw [hx]
    refine XR_a (op_eql rfl rfl) rfl rfl ?_
    refine XV rfl rfl rfl ?_
    refine XR_if 53 rfl (fun h => ?_) (fun h => ?_)
    ·have h53 := h
     refine XV rfl rfl rfl ?_
     refine XR_a (op_gtr rfl rfl) rfl rfl ?_
     refine XR_a (op_pick_t rfl rfl) rfl rfl (XR_nil ?_)
     refine X_if rfl (fun h => ?_) (fun h => ?_)
     ·refine X_reg (XV rfl rfl rfl ?_)
      refine XR_a (op_build (ps := [(0, nV 18), (1, nV k)]) (cs := #[nV 18, nV k]) rfl rfl) rfl rfl ?_
      refine XR_wn (opl_store_whole (us := pC2 (18, k)) st 0 rfl rfl rfl rfl rfl (one_pC2 _) rfl) rfl rfl fun _ hp st => ?_
      simp only [List.set_cons_zero] at st
      refine XR_nil ?_
      exact X_meet () (.cons rfl (.cons rfl (.cons rfl (.cons rfl (.cons rfl (.nil _)))))) (by rw [hq2, if_pos (by omega)]; exact st)
     ·refine X_skip ?_
      exact X_meet () (.cons rfl (.cons rfl (.cons rfl (.cons rfl (.cons rfl (.nil _)))))) (by rw [hq2, if_neg (by omega)]; exact st)
    ·have h53 := h
     refine XR_no rfl rfl (XR_no rfl rfl (XR_a (op_pick_f rfl rfl) rfl rfl (XR_nil (X_else rfl (X_skip ?_)))))
     exact X_meet () (.cons rfl (.cons rfl (.cons rfl (.cons rfl (.cons rfl (.nil _)))))) (by rw [hq2, if_neg (by omega)]; exact st)
   rintro ⟨⟩ hp6 st
   refine X_seq ?_
   refine X_cut (fun (_ : Unit) => [(0, .slice (some ⟨g, o, none⟩) n c), (3, v), (4, nV a), (5, nV k), (6, .pointer (some ⟨p6, 0, none⟩))])
    (fun (_ : Unit) hp' => St h0.size h0 hp' [pt p6 139 (pC2 q3), row 139 2 v (s.flatMap pC2)]) ?_ ?_
   ·refine X_seq (X_reg (XV rfl rfl rfl ?_))
    refine XR_a (op_gtr rfl rfl) rfl rfl ?_
    refine XV rfl rfl rfl ?_
    refine XR_if 61 rfl (fun h => ?_) (fun h => ?_)
    ·have h61 := h
     refine XV rfl rfl rfl (XV rfl rfl rfl ?_)
     first | refine XR_a (op_index1 rfl rfl rfl (by omega)) rfl rfl ?_ | refine XR_a (op_index rfl rfl rfl (by omega)) rfl rfl ?_
     refine XR_a (op_ld (hci st.low a (by omega)) rfl rfl rfl) rfl rfl ?_
     rw [hx]
     refine XR_a (op_eql rfl rfl) rfl rfl ?_
     refine XR_a (op_pick_t rfl rfl) rfl rfl (XR_nil ?_)
     refine X_if rfl (fun h => ?_) (fun h => ?_)
     ·refine X_reg ?_
      first | refine XR_a (op_field0 rfl rfl) rfl rfl ?_ | refine XR_a (op_fieldn rfl rfl) rfl rfl ?_
      refine XR_wn (opl_store_pt (v := nV 138) st 0 rfl rfl rfl rfl rfl rfl) rfl rfl fun _ hp st => ?_
      simp only [List.set_cons_zero] at st
      refine XR_nil ?_
      exact X_meet () (.cons rfl (.cons rfl (.cons rfl (.cons rfl (.cons rfl (.nil _)))))) (by rw [hq3, if_pos (by omega)]; exact st)
     ·refine X_skip ?_
      exact X_meet () (.cons rfl (.cons rfl (.cons rfl (.cons rfl (.cons rfl (.nil _)))))) (by rw [hq3, if_neg (by omega)]; exact st)
    ·have h61 := h
     refine XR_no rfl rfl (XR_no rfl rfl (XR_no rfl rfl (XR_no rfl rfl (XR_no rfl rfl (XR_a (op_pick_f rfl rfl) rfl rfl (XR_nil (X_else rfl (X_skip ?_))))))))
     exact X_meet () (.cons rfl (.cons rfl (.cons rfl (.cons rfl (.cons rfl (.nil _)))))) (by rw [hq3, if_neg (by omega)]; exact st)
   rintro ⟨⟩ hp7 st
   refine X_seq ?_
   refine X_cut (fun (_ : Unit) => [(0, .slice (some ⟨g, o, none⟩) n c), (3, v), (4, nV a), (5, nV k), (6, .pointer (some ⟨p6, 0, none⟩))])
    (fun (_ : Unit) hp' => St h0.size h0 hp' [pt p6 139 (pC2 q4), row 139 2 v (s.flatMap pC2)]) ?_ ?_
   ·refine X_seq ?_
    refine X_draw byKind (by kernel_rfl) (by kernel_rfl) ?_
    refine XV rfl rfl rfl (XV rfl rfl rfl ?_)
    first | refine XR_a (op_index1 rfl rfl rfl (by omega)) rfl rfl ?_ | refine XR_a (op_index rfl rfl rfl (by omega)) rfl rfl ?_
    refine XR_a (op_ld (hci st.low a (by omega)) rfl rfl rfl) rfl rfl ?_
    rw [hx]
    refine XR_a (op_neq rfl rfl) rfl rfl ?_
    refine XV rfl rfl rfl ?_
    refine XR_if 74 rfl (fun h => ?_) (fun h => ?_)
    ·have h74 := h
     refine XV rfl rfl rfl ?_
     refine XR_a (op_gtr rfl rfl) rfl rfl ?_
     refine XR_a (op_pick_t rfl rfl) rfl rfl (XV rfl rfl rfl ?_)
     refine XR_if 78 rfl (fun h => ?_) (fun h => ?_)
     ·have h78 := h
      refine XV rfl rfl rfl (XV rfl rfl rfl ?_)
      first | refine XR_a (op_subN (n := 1) rfl rfl (by omega) (by simp only [inK]; omega)) rfl rfl ?_ | refine XR_a (op_subI rfl rfl (by simp only [inK]; omega)) rfl rfl ?_ | refine XR_a (op_sub rfl rfl) rfl rfl ?_
      refine XR_a (op_index1 (i := a - 1) rfl rfl rfl (by omega)) rfl rfl ?_
      refine XR_a (op_ld (hci st.low (a - 1) (by omega)) rfl rfl rfl) rfl rfl ?_
      refine XV rfl rfl rfl (XV rfl rfl rfl ?_)
      first | refine XR_a (op_index1 rfl rfl rfl (by omega)) rfl rfl ?_ | refine XR_a (op_index rfl rfl rfl (by omega)) rfl rfl ?_
      refine XR_a (op_ld (hci st.low a (by omega)) rfl rfl rfl) rfl rfl ?_
      rw [hx]
      refine XR_a (op_eql rfl rfl) rfl rfl ?_
      refine XR_a (op_pick_t rfl rfl) rfl rfl (XV rfl rfl rfl ?_)
      refine XR_if 90 rfl (fun h => ?_) (fun h => ?_)
      ·have h90 := h
       refine XV rfl rfl rfl ?_
       refine XR_a (op_gtr rfl rfl) rfl rfl ?_
       refine XR_a (op_pick_t rfl rfl) rfl rfl (XR_nil ?_)
       refine X_if rfl (fun h => ?_) (fun h => ?_)
       ·have h6 := h
        refine X_seq (X_reg (XV rfl rfl rfl ?_))
        refine XR_a (op_build (ps := [(0, nV 16), (1, nV k)]) (cs := #[nV 16, nV k]) rfl rfl) rfl rfl ?_
        refine XR_wn (opl_store_whole (us := pC2 (16, k)) st 0 rfl rfl rfl rfl rfl (one_pC2 _) rfl) rfl rfl fun _ hp st => ?_
        simp only [List.set_cons_zero] at st
        refine XR_nil (X_seq (X_reg (XV rfl rfl rfl ?_)))
        refine XR_a (op_gtr rfl rfl) rfl rfl ?_
        refine XR_nil ?_
        refine X_if rfl (fun h => ?_) (fun h => ?_)
        ·refine X_reg ?_
         first | refine XR_a (op_field0 rfl rfl) rfl rfl ?_ | refine XR_a (op_fieldn rfl rfl) rfl rfl ?_
         refine XR_wn (opl_store_pt (v := nV 6) st 0 rfl rfl rfl rfl rfl rfl) rfl rfl fun _ hp st => ?_
         simp only [List.set_cons_zero] at st
         refine XR_nil ?_
         exact X_meet () (.cons rfl (.cons rfl (.cons rfl (.cons rfl (.cons rfl (.nil _)))))) (by rw [hq4, if_pos (by omega), Nat.min_eq_right (by omega)]; exact st)
        ·refine X_skip ?_
         exact X_meet () (.cons rfl (.cons rfl (.cons rfl (.cons rfl (.cons rfl (.nil _)))))) (by rw [hq4, if_pos (by omega), Nat.min_eq_left (by omega)]; exact st)
       ·have h6 := h
        refine X_skip ?_
        exact X_meet () (.cons rfl (.cons rfl (.cons rfl (.cons rfl (.cons rfl (.nil _)))))) (by rw [hq4, if_neg (by omega)]; exact st)
      ·have h90 := h
       refine XR_no rfl rfl (XR_no rfl rfl (XR_a (op_pick_f rfl rfl) rfl rfl (XR_nil (X_else rfl (X_skip ?_)))))
       exact X_meet () (.cons rfl (.cons rfl (.cons rfl (.cons rfl (.cons rfl (.nil _)))))) (by rw [hq4, if_neg (by omega)]; exact st)
     ·have h78 := h
      refine XR_no rfl rfl (XR_no rfl rfl (XR_no rfl rfl (XR_no rfl rfl (XR_no rfl rfl (XR_no rfl rfl (XR_no rfl rfl (XR_no rfl rfl (XR_no rfl rfl (XR_no rfl rfl ?_)))))))))
      refine XR_a (op_pick_f rfl rfl) rfl rfl (XV rfl rfl rfl (XR_no rfl rfl (XR_no rfl rfl (XR_a (op_pick_f rfl rfl) rfl rfl (XR_nil (X_else rfl (X_skip ?_)))))))
      exact X_meet () (.cons rfl (.cons rfl (.cons rfl (.cons rfl (.cons rfl (.nil _)))))) (by rw [hq4, if_neg (by omega)]; exact st)
    ·have h74 := h
     refine XR_no rfl rfl (XR_no rfl rfl (XR_a (op_pick_f rfl rfl) rfl rfl (XV rfl rfl rfl (XR_no rfl rfl (XR_no rfl rfl (XR_no rfl rfl (XR_no rfl rfl (XR_no rfl rfl (XR_no rfl rfl ?_)))))))))
     refine XR_no rfl rfl (XR_no rfl rfl (XR_no rfl rfl (XR_no rfl rfl (XR_a (op_pick_f rfl rfl) rfl rfl (XV rfl rfl rfl (XR_no rfl rfl (XR_no rfl rfl (XR_a (op_pick_f rfl rfl) rfl rfl (XR_nil ?_)))))))))
     refine X_else rfl (X_skip ?_)
     exact X_meet () (.cons rfl (.cons rfl (.cons rfl (.cons rfl (.cons rfl (.nil _)))))) (by rw [hq4, if_neg (by omega)]; exact st)
   rintro ⟨⟩ hp8 st
   rw [hP4] at hs hpm
   refine X_seq (X_reg (XV rfl rfl rfl ?_))
   refine XR_a (op_ldA (vs := pC2 q4) (st.cells 0 rfl) rfl rfl rfl rfl) rfl rfl ?_
   refine XR_wa (opl_varA (us := pC2 q4) rfl rfl rfl rfl (by kernel_rfl)) rfl rfl rfl ?_
   rintro _ hp ⟨A9, rfl, hx9, hrd⟩
   replace st := st.ext hx9
   refine XR_wa (opl_append st 1 rfl (hrd) (rfl) (one_pC2 q4) (by rw [flat_length _ 2 (fun _ => rfl)]; simp [pC2]; omega) rfl rfl rfl rfl rfl rfl rfl) rfl rfl rfl fun v hp st => ?_
   simp only [List.set_cons_zero, List.set_cons_succ] at st
   have e2 : s.flatMap pC2 ++ pC2 q4 = (s ++ [q4]).flatMap pC2 := by rw [List.flatMap_append]; simp
   rw [e2] at st
   refine XA rfl rfl rfl (XR_nil (X_reg (XV rfl rfl rfl ?_)))
   first | refine XR_a (op_field0 rfl rfl) rfl rfl ?_ | refine XR_a (op_fieldn rfl rfl) rfl rfl ?_
   refine XR_a (op_ld (st.cell 0 (i := 1) rfl rfl) rfl rfl rfl) rfl rfl ?_
   first | refine XR_a (op_addN rfl rfl (by simp only [inK]; omega)) rfl rfl ?_ | refine XR_a (op_addI rfl rfl (by simp only [inK]; omega)) rfl rfl ?_ | refine XR_a (op_add rfl rfl) rfl rfl ?_
   refine XA rfl rfl rfl (XR_nil (X_blk ?_))
   exact X_again (a + q4.2, v, s ++ [q4]) (.cons rfl (.cons rfl (.cons rfl (.nil _)))) ⟨by simp only; omega, by simp only [List.length_append, List.length_cons, List.length_nil]; omega, by simp only; rw [List.append_assoc]; exact hs, st.tail⟩ (by simp only; omega)
 ·refine X_exit rfl (X_seq (X_reg (XV rfl rfl rfl (XA rfl rfl rfl (XR_nil ?_)))))
  refine X_ret (.cons (.tmp rfl) .nil) ?_
  rw [partsL_end (by omega), List.append_nil] at hs
  rw [← hs]
  exact st
theorem put09_ref {n c : Nat} {A : Option Addr} {ls : List Nat} {h0 : Heap} (hr : Rd h0 A (ls.map nV)) (hl : ls.length = n) (hn1 : 1 ≤ n) (hn : n ≤ 320) (hb2 : ∀ x ∈ ls, x ≤ 15) :
  Ret Try.prog 48 [.slice A n c] h0 fun v h' => St h0.size h0 h' [row 5 1 v ((b01 (putR ls)).map byteV)] := by
 have hpm := partsL_mem hb2
 have hplen := partsL_len ls
 have hok := plens_ok hb2 (by omega)
 have h19 := plens_len ls
 have hpp := fun x => plens_pos (l := ls) hb2 (x := x)
 have hP1 : 1 ≤ (partsL ls 0).length := by rw [partsL_cons (by omega)]; simp
 have hpl : lensW (pcnt (partsL ls 0)) = plens ls := rfl
 have hputR : putHead ls 19 ++ (partsL ls 0).flatMap (partBits (plens ls)) = putR ls := rfl
 refine ret_of_X Try.func48 rfl rfl fun w0 hw0 => ?_
 simp only [argE, Nat.zero_add, Nat.reduceAdd]
 refine X_seq (X_reg (XA rfl rfl rfl (XR_nil (X_seq (X_reg (XV rfl rfl rfl ?_))))))
 refine XR_wa (opl_call (parts_ref hr hl (by omega)) rfl (by kernel_rfl)) rfl rfl rfl ?_
 rintro v3 hp st
 obtain ⟨P, hP⟩ : ∃ P, partsL ls 0 = P := ⟨_, rfl⟩
 rw [hP] at st hplen hP1 hpl hpm hpp hputR
 have hfl := flat_length pC2 2 (fun _ => rfl) P
 obtain ⟨g3, n3, c3, rfl, hl3, _⟩ := st.row0 0 rfl (by rw [hfl]; omega)
 rw [hfl] at hl3
 obtain rfl : n3 = P.length := by omega
 refine XA rfl rfl rfl (XR_nil (X_seq (X_reg ?_)))
 refine XR_wa (opl_mk (n := 19) (by omega) rfl rfl rfl) rfl rfl rfl ?_
 rintro v hp hnew
 replace st := st.new hnew
 obtain ⟨go, no, co, rfl, hno, _⟩ := st.row0 0 rfl (by rw [List.length_replicate]; omega)
 obtain rfl : no = 19 := by simpa using hno.symm
 rw [show List.replicate 19 (Value.int .i64 0) = (pcnt (P.take 0)).map nV by rw [List.take_zero, pcnt_nil, List.map_replicate]; rfl] at st
 refine XA rfl rfl rfl (XR_nil (X_seq (X_seq (X_reg (XA rfl rfl rfl (XR_nil (X_block ?_)))))))
 refine X_loop (fun i => P.length - i) (fun i => [(0, .slice A n c), (3, .slice (some ⟨g3, 0, none⟩) P.length c3), (4, .slice (some ⟨go, 0, none⟩) 19 co), (5, nV i)])
  (fun (i : Nat) hp => i ≤ P.length ∧ St h0.size h0 hp [row 3 1 (.slice (some ⟨go, 0, none⟩) 19 co) ((pcnt (P.take i)).map nV), row 139 2 (.slice (some ⟨g3, 0, none⟩) P.length c3) (P.flatMap pC2)])
  0 (.cons rfl (.cons rfl (.cons rfl (.cons rfl (.nil _))))) ⟨Nat.zero_le _, st⟩ ?_
 clear st
 rintro i hp ⟨hi, st⟩
 refine X_seq (X_seq (X_reg (XV rfl rfl rfl (XV rfl rfl rfl ?_))))
 refine XR_a (op_len rfl rfl rfl) rfl rfl ?_
 refine XR_a (op_lss rfl rfl) rfl rfl ?_
 refine XR_nil ?_
 refine X_if rfl (fun h => ?_) (fun h => ?_)
 ·have hiP : i < P.length := by omega
  obtain ⟨x, hx⟩ : ∃ x, P[i] = x := ⟨_, rfl⟩
  have hix : P[i]? = some x := by rw [List.getElem?_eq_getElem hiP, hx]
  have hx19 := (hpm x (by rw [← hx]; exact List.getElem_mem _)).1
  have hcx := St.flatAt pC2 2 (fun _ => rfl) (by omega) st 1 rfl hix
  have hog := pcnt_get (s := P.take i) hx19
  have hcl := pcnt_le (P.take i) _ (List.mem_of_getElem? hog)
  rw [List.length_take] at hcl
  obtain ⟨_, _, he8, hc8⟩ := (st.rdS 0 rfl).2.at_ (by rw [List.length_map, pcnt_len]; omega)
  cases he8
  have hov := hc8 _ _ (map_get_nV hog)
  have htk : P.take (i + 1) = P.take i ++ [x] := by rw [List.take_succ_eq_append_getElem hiP, hx]
  refine X_skip (X_seq (X_block (X_reg (XV rfl rfl rfl (XV rfl rfl rfl (XV rfl rfl rfl ?_))))))
  refine XR_a (op_index (i := i) rfl rfl rfl (by omega)) rfl rfl ?_
  first | refine XR_a (op_field0 rfl rfl) rfl rfl ?_ | refine XR_a (op_fieldn rfl rfl) rfl rfl ?_
  refine XR_a (op_ld (hcx 0 _ rfl) rfl rfl rfl) rfl rfl ?_
  first | refine XR_a (op_index1 rfl rfl rfl (by omega)) rfl rfl ?_ | refine XR_a (op_index rfl rfl rfl (by omega)) rfl rfl ?_
  refine XR_a (op_ld (hov) rfl rfl rfl) rfl rfl ?_
  first | refine XR_a (op_addN (n := 1) rfl rfl (by simp only [inK]; omega)) rfl rfl ?_ | refine XR_a (op_addI rfl rfl (by simp only [inK]; omega)) rfl rfl ?_ | refine XR_a (op_add rfl rfl) rfl rfl ?_
  first | refine XR_a (op_index1 rfl rfl rfl (by omega)) rfl rfl ?_ | refine XR_a (op_index rfl rfl rfl (by omega)) rfl rfl ?_
  refine XR_wn (opl_store_row (v := nV (((P.take i).map (·.1)).count x.1 + 1)) st 0 rfl rfl rfl (by rw [List.length_map, pcnt_len]; exact hx19) rfl rfl) rfl rfl fun _ hp st => ?_
  simp only [List.set_cons_zero, List.set_cons_succ] at st
  rw [map_set_nV, pcnt_set, ← htk] at st
  refine XR_nil (X_blk (X_reg (XV rfl rfl rfl ?_)))
  first | refine XR_a (op_addN (n := 1) rfl rfl (by simp only [inK]; omega)) rfl rfl ?_ | refine XR_a (op_addI rfl rfl (by simp only [inK]; omega)) rfl rfl ?_ | refine XR_a (op_add rfl rfl) rfl rfl ?_
  refine XA rfl rfl rfl (XR_nil ?_)
  exact X_again (i + 1) (.cons rfl (.cons rfl (.cons rfl (.cons rfl (.nil _))))) ⟨by omega, st⟩ (by omega)
 ·refine X_exit rfl (X_seq ?_)
  obtain rfl : i = P.length := by omega
  rw [List.take_length] at st
  have hwb : ∀ s, wkey (pcnt P) s ≤ 1073741824 := fun s => by
   unfold wkey
   rcases Nat.lt_or_ge s 19 with h9 | h9
   ·rw [getD_eq (by rw [pcnt_len]; exact h9)]
    have := pcnt_le P _ (List.getElem_mem (l := pcnt P) (by rw [pcnt_len]; exact h9)); omega
   ·rw [List.getD, List.getElem?_eq_none (by rw [pcnt_len]; exact h9)]; exact Nat.zero_le _
  refine X_reg (XV rfl rfl rfl ?_)
  refine XR_wa (opl_call (lengths_ref (st.rdS 0 rfl).2 (pcnt_len P) (by omega) hwb) rfl (by kernel_rfl)) rfl rfl rfl ?_
  rintro v6 hp6 st6
  rw [hpl] at st6
  obtain ⟨g6, n6, c6, rfl, hl6, _⟩ := st6.row0 0 rfl (by rw [List.length_map]; omega)
  rw [List.length_map, h19, Nat.mul_one] at hl6
  obtain rfl : n6 = 19 := by omega
  replace st := st.join st6
  simp only [List.cons_append, List.nil_append] at st
  refine XA rfl rfl rfl (XR_nil (X_seq (X_reg (XV rfl rfl rfl ?_))))
  refine XR_wa (opl_call (values08_ref (st.rdS 0 rfl).2 h19 hok) rfl (by kernel_rfl)) rfl rfl rfl ?_
  rintro v7 hp7 st7
  obtain ⟨g7, n7, c7, rfl, hl7, _⟩ := st7.row0 0 rfl (by rw [List.length_map, vals_length]; omega)
  rw [List.length_map, vals_length, h19, Nat.mul_one] at hl7
  obtain rfl : n7 = 19 := by omega
  replace st := st.join st7
  simp only [List.cons_append, List.nil_append] at st
  refine XA rfl rfl rfl (XR_nil (X_seq (X_reg (XV rfl rfl rfl ?_))))
  refine XR_a (op_len rfl rfl rfl) rfl rfl ?_
  refine XR_a (op_convI (k' := .u32) rfl rfl (by simp only [inK]; omega)) rfl rfl ?_
  refine XR_wa (opl_call (brow_ref (n := n) (k := 9) (by omega)) rfl (by kernel_rfl)) rfl rfl rfl ?_
  rintro v8 hp8 st8
  rw [show wd 32 9 = 9 from rfl] at st8
  replace st := st.join st8
  simp only [List.cons_append, List.nil_append] at st
  refine XA rfl rfl rfl (XR_nil (X_seq (X_seq (X_reg (XA rfl rfl rfl (XR_nil (X_block ?_)))))))
  have hh0 : bitsN 9 n = putHead ls 0 := by unfold putHead; rw [hl]; simp
  rw [hh0] at st
  refine X_loop (fun s => 19 - s.1) (fun s => [(3, .slice (some ⟨g3, 0, none⟩) P.length c3), (6, .slice (some ⟨g6, 0, none⟩) 19 c6), (7, .slice (some ⟨g7, 0, none⟩) 19 c7), (8, s.2), (9, nV s.1)])
   (fun (s : Nat × Value) hp => s.1 ≤ 19 ∧ St h0.size h0 hp [row 5 1 s.2 ((b01 (putHead ls s.1)).map byteV), row 3 1 (.slice (some ⟨g7, 0, none⟩) 19 c7) ((vals (plens ls)).map nV), row 3 1 (.slice (some ⟨g6, 0, none⟩) 19 c6) ((plens ls).map nV),
    row 3 1 (.slice (some ⟨go, 0, none⟩) 19 co) ((pcnt P).map nV), row 139 2 (.slice (some ⟨g3, 0, none⟩) P.length c3) (P.flatMap pC2)])
   (0, v8) (.cons rfl (.cons rfl (.cons rfl (.cons rfl (.cons rfl (.nil _)))))) ⟨Nat.zero_le _, st⟩ ?_
  clear st
  rintro ⟨i, v⟩ hp8 ⟨hi, st⟩
  simp only at hi st ⊢
  refine X_seq (X_seq (X_reg (XV rfl rfl rfl ?_)))
  refine XR_a (op_lss rfl rfl) rfl rfl ?_
  refine XR_nil ?_
  refine X_if rfl (fun h => ?_) (fun h => ?_)
  ·obtain ⟨_, _, he9, hc9⟩ := (st.rdS 2 rfl).2.at_ (by rw [List.length_map]; omega)
   cases he9
   have hl15 : (plens ls).getD i 0 ≤ 15 := by rw [getD_eq (by omega)]; exact hok.2.2.1 _ (List.getElem_mem _)
   have hhl := putHead_len ls i
   refine X_skip (X_seq (X_block (X_reg (XV rfl rfl rfl (XV rfl rfl rfl (XV rfl rfl rfl ?_))))))
   first | refine XR_a (op_index1 rfl rfl rfl (by omega)) rfl rfl ?_ | refine XR_a (op_index rfl rfl rfl (by omega)) rfl rfl ?_
   refine XR_a (op_ld (hc9 i (nV ((plens ls).getD i 0)) (by rw [List.getElem?_map, List.getElem?_eq_getElem (by omega), getD_eq (by omega)]; rfl)) rfl rfl rfl) rfl rfl ?_
   refine XR_a (op_convI (k' := .u32) rfl rfl (by simp only [inK]; omega)) rfl rfl ?_
   refine XR_wa (opl_call (brow_ref (n := (plens ls).getD i 0) (k := 4) (by omega)) rfl (by kernel_rfl)) rfl rfl rfl ?_
   rintro v9 hp9 st9
   rw [show wd 32 4 = 4 from rfl] at st9
   obtain ⟨A9, n9, c9, rfl, hlen9, _, _, hrd9⟩ := st9.row 0 rfl
   replace st := st.ext st9.low
   refine XR_wa (opl_append st 0 rfl (hrd9) (hlen9) (one_bytes _) (by simp [b01_length, bitsN_length]; omega) rfl rfl rfl rfl rfl rfl rfl) rfl rfl rfl fun v hp st => ?_
   simp only [List.set_cons_zero, List.set_cons_succ] at st
   rw [← List.map_append, ← b01_append, ← putHead_succ (by omega)] at st
   refine XA rfl rfl rfl (XR_nil (X_blk (X_reg (XV rfl rfl rfl ?_))))
   first | refine XR_a (op_addN (n := 1) rfl rfl (by simp only [inK]; omega)) rfl rfl ?_ | refine XR_a (op_addI rfl rfl (by simp only [inK]; omega)) rfl rfl ?_ | refine XR_a (op_add rfl rfl) rfl rfl ?_
   refine XA rfl rfl rfl (XR_nil ?_)
   exact X_again (i + 1, _) (.cons rfl (.cons rfl (.cons rfl (.cons rfl (.cons rfl (.nil _)))))) ⟨by simp only; omega, st⟩ (by simp only; omega)
  ·refine X_exit rfl (X_seq (X_seq (X_reg (XA rfl rfl rfl (XR_nil (X_block ?_))))))
   obtain rfl : i = 19 := by omega
   have hhl := putHead_len ls 19
   rw [show putHead ls 19 = putHead ls 19 ++ (P.take 0).flatMap (partBits (plens ls)) by simp] at st
   refine X_loop (fun s => P.length - s.1) (fun s => [(3, .slice (some ⟨g3, 0, none⟩) P.length c3), (6, .slice (some ⟨g6, 0, none⟩) 19 c6), (7, .slice (some ⟨g7, 0, none⟩) 19 c7), (8, s.2), (10, nV s.1)])
    (fun (s : Nat × Value) hp => s.1 ≤ P.length ∧ St h0.size h0 hp [row 5 1 s.2 ((b01 (putHead ls 19 ++ (P.take s.1).flatMap (partBits (plens ls)))).map byteV), row 3 1 (.slice (some ⟨g7, 0, none⟩) 19 c7) ((vals (plens ls)).map nV), row 3 1 (.slice (some ⟨g6, 0, none⟩) 19 c6) ((plens ls).map nV),
     row 3 1 (.slice (some ⟨go, 0, none⟩) 19 co) ((pcnt P).map nV), row 139 2 (.slice (some ⟨g3, 0, none⟩) P.length c3) (P.flatMap pC2)])
    (0, v) (.cons rfl (.cons rfl (.cons rfl (.cons rfl (.cons rfl (.nil _)))))) ⟨Nat.zero_le _, st⟩ ?_
   clear st
   rintro ⟨i, v⟩ hp8 ⟨hi, st⟩
   simp only at hi st ⊢
   refine X_seq (X_seq (X_reg (XV rfl rfl rfl (XV rfl rfl rfl ?_))))
   refine XR_a (op_len rfl rfl rfl) rfl rfl ?_
   refine XR_a (op_lss rfl rfl) rfl rfl ?_
   refine XR_nil ?_
   refine X_if rfl (fun h => ?_) (fun h => ?_)
   ·have hiP : i < P.length := by omega
    obtain ⟨x, hx⟩ : ∃ x, P[i] = x := ⟨_, rfl⟩
    have hix : P[i]? = some x := by rw [List.getElem?_eq_getElem hiP, hx]
    have hxm : x ∈ P := by rw [← hx]; exact List.getElem_mem _
    obtain ⟨hx19, hxL, hxH⟩ := hpm x hxm
    have hxp := hpp x hxm
    have hxh := rH_le x.1
    have hcx := fun {h1 : Heap} (he : Ext hp8 h1) => St.flatAt pC2 2 (fun _ => rfl) (by omega) (st.ext he) 4 rfl hix
    have htk : P.take (i + 1) = P.take i ++ [x] := by rw [List.take_succ_eq_append_getElem hiP, hx]
    have hfb := flat_bd (partBits (plens ls)) 22 (partBits_len hok) (P.take i)
    rw [List.length_take] at hfb
    have hge := getD_eq (l := plens ls) (i := x.1) (by omega)
    have hl15 : (plens ls).getD x.1 0 ≤ 15 := by rw [hge]; exact hok.2.2.1 _ (List.getElem_mem _)
    have hv := val_lt hok (s := x.1) (by omega) (by rw [← hge]; exact hxp)
    have hv2 := fst_bd hok (n := (plens ls).getD x.1 0) (by omega)
    rw [← hge] at hv
    have hvl : (vals (plens ls))[x.1]? = some (val (plens ls) x.1) := by simp [vals, h19, hx19]
    have hll : (plens ls)[x.1]? = some ((plens ls).getD x.1 0) := by rw [hge, List.getElem?_eq_getElem (by omega)]
    obtain ⟨_, _, he9, hc9⟩ := (st.rdS 2 rfl).2.at_ (by rw [List.length_map]; omega)
    cases he9
    obtain ⟨_, _, he7, hc7⟩ := (st.rdS 1 rfl).2.at_ (by rw [List.length_map, vals_length]; omega)
    cases he7
    refine X_skip (X_seq (X_block (X_seq (X_reg (XV rfl rfl rfl (XV rfl rfl rfl ?_))))))
    refine XR_a (op_index (i := i) rfl rfl rfl (by omega)) rfl rfl ?_
    first | refine XR_a (op_field0 rfl rfl) rfl rfl ?_ | refine XR_a (op_fieldn rfl rfl) rfl rfl ?_
    refine XR_a (op_ld (hcx (Ext.refl _) 0 _ rfl) rfl rfl rfl) rfl rfl ?_
    refine XA rfl rfl rfl (XR_nil (X_seq ?_))
    refine X_draw (butAt [(9, .grow)]) (by kernel_rfl) (by kernel_rfl) ?_
    refine XV rfl rfl rfl (XV rfl rfl rfl (XV rfl rfl rfl ?_))
    first | refine XR_a (op_index1 rfl rfl rfl (by omega)) rfl rfl ?_ | refine XR_a (op_index rfl rfl rfl (by omega)) rfl rfl ?_
    refine XR_a (op_ld (hc7 x.1 _ (map_get_nV hvl)) rfl rfl rfl) rfl rfl ?_
    refine XV rfl rfl rfl (XV rfl rfl rfl ?_)
    first | refine XR_a (op_index1 rfl rfl rfl (by omega)) rfl rfl ?_ | refine XR_a (op_index rfl rfl rfl (by omega)) rfl rfl ?_
    refine XR_a (op_ld (hc9 x.1 _ (map_get_nV hll)) rfl rfl rfl) rfl rfl ?_
    refine XR_ga (opl_call (bits08_ref (z := val (plens ls) x.1) (n := (plens ls).getD x.1 0) (by omega) (by omega)) rfl (by kernel_rfl)) rfl rfl rfl (fun _ _ h => h.low) ?_
    rintro v12 hp12 st12
    obtain ⟨A12, n12, c12, rfl, hlen12, _, _, hrd12⟩ := st12.row 0 rfl
    replace st := st.ext st12.low
    refine XR_wa (opl_append st 0 rfl (hrd12) (hlen12) (one_bytes _) (by simp only [b01_length, codeBits_length, List.length_append, List.length_map]; omega) rfl rfl rfl rfl rfl rfl rfl) rfl rfl rfl fun v hp st => ?_
    simp only [List.set_cons_zero, List.set_cons_succ] at st
    rw [← List.map_append, ← b01_append] at st
    refine XA rfl rfl rfl (XR_nil (X_seq (X_reg (XV rfl rfl rfl ?_))))
    refine XR_wa (opl_call (extra_ref x.1 _) rfl (by kernel_rfl)) rfl rfl rfl ?_
    rintro _ _ ⟨rfl, rfl⟩
    refine XV rfl rfl rfl (XR_a (op_extract rfl rfl) rfl rfl (XR_a (op_extract rfl rfl) rfl rfl (XA rfl rfl rfl (XA rfl rfl rfl (XR_nil (X_reg (XV rfl rfl rfl (XV rfl rfl rfl (XV rfl rfl rfl ?_)))))))))
    refine XR_a (op_index (i := i) rfl rfl rfl (by omega)) rfl rfl ?_
    first | refine XR_a (op_field0 rfl rfl) rfl rfl ?_ | refine XR_a (op_fieldn rfl rfl) rfl rfl ?_
    refine XR_a (op_ld (St.flatAt pC2 2 (fun _ => rfl) (by omega) st 4 rfl hix 1 _ rfl) rfl rfl rfl) rfl rfl ?_
    refine XV rfl rfl rfl ?_
    refine XR_a (op_subN (m := x.2) (n := rL x.1) rfl rfl hxL (by simp only [inK]; omega)) rfl rfl ?_
    refine XR_a (op_convI (k' := .u32) rfl rfl (by simp only [inK]; omega)) rfl rfl ?_
    refine XV rfl rfl rfl ?_
    refine XR_wa (opl_call (brow_ref (n := x.2 - rL x.1) (k := ((rW x.1 : Nat) : Int)) (by omega)) rfl (by kernel_rfl)) rfl rfl rfl ?_
    rintro v14 hp14 st14
    rw [wd_nat (by have := rW_le x.1; omega)] at st14
    obtain ⟨A14, n14, c14, rfl, hlen14, _, _, hrd14⟩ := st14.row 0 rfl
    replace st := st.ext st14.low
    have hrw := rW_le x.1
    refine XR_wa (opl_append st 0 rfl (hrd14) (hlen14) (one_bytes _) (by simp only [b01_length, codeBits_length, bitsN_length, List.length_append, List.length_map]; omega) rfl rfl rfl rfl rfl rfl rfl) rfl rfl rfl fun v hp st => ?_
    simp only [List.set_cons_zero, List.set_cons_succ] at st
    rw [← List.map_append, ← b01_append] at st
    have e : putHead ls 19 ++ (P.take i).flatMap (partBits (plens ls)) ++ codeBits (val (plens ls) x.1) ((plens ls).getD x.1 0) ++ bitsN (rW x.1) (x.2 - rL x.1) = putHead ls 19 ++ (P.take (i + 1)).flatMap (partBits (plens ls)) := by
     rw [htk, List.flatMap_append]
     simp [partBits]
    rw [e] at st
    refine XA rfl rfl rfl (XR_nil (X_blk (X_reg (XV rfl rfl rfl ?_))))
    first | refine XR_a (op_addN (n := 1) rfl rfl (by simp only [inK]; omega)) rfl rfl ?_ | refine XR_a (op_addI rfl rfl (by simp only [inK]; omega)) rfl rfl ?_ | refine XR_a (op_add rfl rfl) rfl rfl ?_
    refine XA rfl rfl rfl (XR_nil ?_)
    exact X_again (i + 1, _) (.cons rfl (.cons rfl (.cons rfl (.cons rfl (.cons rfl (.nil _)))))) ⟨by simp only; omega, st⟩ (by simp only; omega)
   ·refine X_exit rfl (X_seq (X_reg (XV rfl rfl rfl (XA rfl rfl rfl (XR_nil ?_)))))
    refine X_ret (.cons (.tmp rfl) .nil) ?_
    rw [List.take_of_length_le (by omega), hputR] at st
    exact st.keep 1
end Go.Bn
end

section
set_option linter.unusedVariables false
set_option linter.unusedSimpArgs false
set_option maxHeartbeats 4000000
set_option maxRecDepth 20000
namespace Go.Bn
open Go Proofs
theorem bits13_ref {n m c e : Nat} {A B : Option Addr} {ls : List Nat} {k : Kls} {h0 : Heap} (hr : Rd h0 A (ls.map nV)) (hl : ls.length = n) (hs : Rd h0 B ((vals ls).map nV)) (hm : (vals ls).length = m) (hok : lensOK ls) (hk : 0 ≤ k.ext ∧ k.ext < 4294967296) (hn : 0 ≤ k.num ∧ k.num < n) :
  Ret Try.prog 50 [.slice A n c, .slice B m e, .agg (clsV k).toArray] h0 fun v h' => St h0.size h0 h' [row 5 1 v ((b01 (symB ls k)).map byteV)] := by
 obtain ⟨x, hx⟩ : ∃ x : Nat, k.ext = x := ⟨k.ext.toNat, by omega⟩
 obtain ⟨s, hs2⟩ : ∃ x : Nat, k.num = x := ⟨k.num.toNat, by omega⟩
 have hsl : s < ls.length := by omega
 have hle := hok.2.2.1 _ (List.getElem_mem hsl)
 have hlen := hok.2.1
 have hvb : val ls s ≤ 1099511627776 := by
  have hv2 := fst_bd hok (n := ls[s]) (by omega)
  by_cases h0 : ls[s] = 0
  ·unfold val
   rw [getD_get hsl, if_pos h0]
   exact Nat.zero_le _
  ·have hv := val_lt hok hsl h0
   omega
 obtain ⟨gA, oA, rfl, hcA⟩ := hr.at_ (by rw [List.length_map]; omega)
 have hci := hcA s (nV ls[s]) (by simp [hsl])
 refine ret_of_X Try.func50 rfl rfl fun w0 hw0 => ?_
 simp only [argE, Nat.zero_add, Nat.reduceAdd]
 have st := St.start h0
 refine X_seq (X_reg ?_)
 refine XR_wa (opl_bx (cs := clsV k) rfl rfl) rfl rfl rfl ?_
 rintro _ hp ⟨p5, rfl, hnew⟩
 replace st := st.new hnew
 refine XA rfl rfl rfl (XR_nil (X_seq ?_))
 refine X_draw byKind (by kernel_rfl) (by kernel_rfl) ?_
 refine XV rfl rfl rfl ?_
 first | refine XR_a (op_field0 rfl rfl) rfl rfl ?_ | refine XR_a (op_fieldn rfl rfl) rfl rfl ?_
 refine XR_a (op_ld (st.cell 0 (i := 0) rfl rfl) rfl rfl rfl) rfl rfl ?_
 refine XR_as (nV s) (congrArg (Value.int .i64) hs2) ?_
 obtain ⟨gB, oB, rfl, hcB⟩ := hs.at_ (by rw [List.length_map, vals_length]; omega)
 have hvi : (vals ls)[s]? = some (val ls s) := by unfold vals; simp [hsl]
 have hvc := hcB s (nV (val ls s)) (by rw [List.getElem?_map, hvi]; rfl)
 rw [vals_length] at hm
 refine XR_a (op_index1 (i := s) rfl rfl rfl (by omega)) rfl rfl ?_
 refine XR_a (op_ld (cellH_ext st.low hvc) rfl rfl rfl) rfl rfl ?_
 refine XV rfl rfl rfl ?_
 first | refine XR_a (op_field0 rfl rfl) rfl rfl ?_ | refine XR_a (op_fieldn rfl rfl) rfl rfl ?_
 refine XR_a (op_ld (st.cell 0 (i := 0) rfl rfl) rfl rfl rfl) rfl rfl ?_
 refine XR_as (nV s) (congrArg (Value.int .i64) hs2) ?_
 refine XR_a (op_index1 (i := s) rfl rfl rfl (by omega)) rfl rfl ?_
 refine XR_a (op_ld (cellH_ext st.low hci) rfl rfl rfl) rfl rfl ?_
 refine XR_wa (opl_call (bits08_ref (z := val ls s) (n := ls[s]) hvb (by omega)) rfl (by kernel_rfl)) rfl rfl rfl ?_
 rintro v6 hp6 st6
 replace st := st.join st6
 simp only [List.cons_append, List.nil_append] at st
 clear st6
 obtain ⟨A7, n7, c7, rfl, hl7, _⟩ := st.row 0 rfl
 refine XA rfl rfl rfl (XR_nil (X_seq (X_reg (XV rfl rfl rfl ?_))))
 first | refine XR_a (op_field0 rfl rfl) rfl rfl ?_ | refine XR_a (op_fieldn rfl rfl) rfl rfl ?_
 refine XR_a (op_ld (st.cell 1 (i := 2) rfl rfl) rfl rfl rfl) rfl rfl ?_
 refine XR_as (.int .u32 ((x : Nat) : Int)) (congrArg (Value.int .u32) hx) ?_
 first | refine XR_a (op_field0 rfl rfl) rfl rfl ?_ | refine XR_a (op_fieldn rfl rfl) rfl rfl ?_
 refine XR_a (op_ld (st.cell 1 (i := 1) rfl rfl) rfl rfl rfl) rfl rfl ?_
 refine XR_wa (opl_call (brow_ref (n := x) (by omega)) rfl (by kernel_rfl)) rfl rfl rfl ?_
 rintro v8 hp8 st8
 replace st := st.join st8
 simp only [List.cons_append, List.nil_append] at st
 clear st8
 obtain ⟨A8, n8, c8, rfl, hl8, _, _, hr8⟩ := st.row 0 rfl
 have hw := wd_le 32 k.bits
 refine XR_wa (opl_append st 1 rfl (hr8) (by rw [List.length_map, b01_length] at hl8 ⊢; omega) (one_bytes _) (by simp only [List.length_map, b01_length, codeBits_length, bitsN_length]; omega) rfl rfl rfl rfl rfl rfl rfl) rfl rfl rfl fun v hp st => ?_
 simp only [List.set_cons_zero, List.set_cons_succ] at st
 refine XA rfl rfl rfl (XR_nil ?_)
 refine X_ret (.cons (.tmp rfl) .nil) ?_
 have he : b01 (codeBits (val ls s) ls[s]) ++ b01 (bitsN (wd 32 k.bits) x) = b01 (symB ls k) := by
  have hge : lenAt ls k.num = ls[s] := by
   unfold lenAt
   rw [hs2, if_neg (by omega), Int.toNat_natCast]
   exact getD_get hsl
  unfold symB
  rw [hge, hs2, hx, Int.toNat_natCast, Int.toNat_natCast]
  unfold b01
  rw [List.map_append]
 rw [← List.map_append, he] at st
 exact (St.re st 3 [0, 2, 1] (by decide)).tail.tail
end Go.Bn
end

section
set_option linter.unusedVariables false
set_option linter.unusedSimpArgs false
set_option maxHeartbeats 4000000
set_option maxRecDepth 20000
namespace Go.Bn
open Go Proofs
theorem wkey_le {ws : List Nat} {b : Nat} (h : ∀ x ∈ ws, x ≤ b) (s : Nat) : wkey ws s ≤ b := by
 unfold wkey
 rcases Nat.lt_or_ge s ws.length with h1 | h1
 ·rw [getD_get h1]; exact h _ (List.getElem_mem h1)
 ·simp [List.getD, h1]
theorem put13_ref {n c : Nat} {A : Option Addr} {ts : List Tok} {h0 : Heap} (hr : Rd h0 A (ts.flatMap tokV)) (hl : ts.length = n) (hR : rightL ts) (hby : ∀ t ∈ ts, 0 ≤ t.byte ∧ t.byte < 256) :
  Ret Try.prog 26 [.slice A n c] h0 fun v h' => St h0.size h0 h' [row 5 1 v ((b01 (blockB (ts.map splitY))).map byteV)] := by
 have hn6 := hR.1
 refine ret_of_X Try.func26 rfl rfl fun w0 hw0 => ?_
 simp only [argE, Nat.zero_add, Nat.reduceAdd]
 refine X_seq (X_reg (XA rfl rfl rfl (XR_nil (X_seq (X_reg (XV rfl rfl rfl ?_))))))
 refine XR_wa (opl_call (weights13_ref hr hl hR hby) rfl (by kernel_rfl)) rfl rfl rfl ?_
 rintro _ hp1 ⟨w1, w2, rfl, st⟩
 have hb30 : ∀ y ∈ ts.map splitY, y.b.num.toNat < 30 := fun y hy => by
  obtain ⟨t, ht, rfl⟩ := List.mem_map.1 hy
  obtain ⟨_, h1, h2, _, h3, h4⟩ := join_split (hR.2 t ht) (hby t ht)
  omega
 obtain ⟨ys, hys⟩ : ∃ ys, ts.map splitY = ys := ⟨_, rfl⟩
 rw [hys] at st hb30 ⊢
 have hyl : ys.length = n := by rw [← hys, List.length_map]; exact hl
 have hokA := lA_ok ys
 have hokB := lB_ok hb30
 obtain ⟨A1, n1, c1, rfl, hl1, _, _, hr1⟩ := st.row 0 rfl
 obtain ⟨A2, n2, c2, rfl, hl2, _, _, hr2⟩ := st.row 1 rfl
 rw [List.length_map, firstW_len, Nat.mul_one] at hl1
 rw [List.length_map, secondW_len, Nat.mul_one] at hl2
 subst hl1 hl2
 refine XV rfl rfl rfl (XR_a (op_extract rfl rfl) rfl rfl (XR_a (op_extract rfl rfl) rfl rfl (XA rfl rfl rfl (XA rfl rfl rfl (XR_nil (X_seq (X_reg (XV rfl rfl rfl ?_))))))))
 refine XR_wa (opl_call (lengths_ref hr1 (firstW_len ys) (by omega) (fun s => Nat.le_trans (wkey_le (firstW_le ys) s) (by omega))) rfl (by kernel_rfl)) rfl rfl rfl ?_
 rintro v3 hp2 st2
 have hr2 := hr2.ext st2.low
 replace st := st.join st2
 rw [show lensW (firstW ys) = lA ys from rfl] at st
 refine XV rfl rfl rfl ?_
 refine XR_wa (opl_call (lengths_ref hr2 (secondW_len ys) (by omega) (fun s => Nat.le_trans (wkey_le (secondW_le ys) s) (by omega))) rfl (by kernel_rfl)) rfl rfl rfl ?_
 rintro v4 hp3 st3
 replace st := st.join st3
 rw [show lensW (secondW ys) = lB ys from rfl] at st
 simp only [List.cons_append, List.nil_append] at st
 have hlA := putR_len hokA
 have hlB := putR_len hokB
 rw [show (lA ys).length = 273 by unfold lA; rw [lensW_length, firstW_len]] at hlA
 rw [show (lB ys).length = 30 by unfold lB; rw [lensW_length, secondW_len]] at hlB
 obtain ⟨la, hla⟩ : ∃ x, lA ys = x := ⟨_, rfl⟩
 obtain ⟨lb, hlb⟩ : ∃ x, lB ys = x := ⟨_, rfl⟩
 have hbl : blockB ys = putR la ++ putR lb ++ ys.flatMap (syB la lb) ++ codeBits (val la 256) (lenAt la 256) := by unfold blockB; rw [hla, hlb]
 have h273 : la.length = 273 := by rw [← hla]; unfold lA; rw [lensW_length, firstW_len]
 have h30 : lb.length = 30 := by rw [← hlb]; unfold lB; rw [lensW_length, secondW_len]
 rw [hla] at st hokA hlA
 rw [hlb] at st hokB hlB
 rw [hbl]
 obtain ⟨A4, n4, c4, rfl, hl4, _, _, hr4⟩ := st.row 0 rfl
 obtain ⟨A3, n3, c3, rfl, hl3, _, _, hr3⟩ := st.row 1 rfl
 rw [List.length_map, Nat.mul_one, h30] at hl4
 rw [List.length_map, Nat.mul_one, h273] at hl3
 subst hl3 hl4
 refine XA rfl rfl rfl (XA rfl rfl rfl (XR_nil (X_seq (X_reg (XV rfl rfl rfl ?_)))))
 refine XR_wa (opl_call (values08_ref hr3 h273 hokA) rfl (by kernel_rfl)) rfl rfl rfl ?_
 rintro v5 hp4 st4
 have hr4 := hr4.ext st4.low
 have hr3 := hr3.ext st4.low
 replace st := st.join st4
 refine XV rfl rfl rfl ?_
 refine XR_wa (opl_call (values08_ref hr4 h30 hokB) rfl (by kernel_rfl)) rfl rfl rfl ?_
 rintro v6 hp5 st5
 have hr4 := hr4.ext st5.low
 have hr3 := hr3.ext st5.low
 replace st := st.join st5
 refine XA rfl rfl rfl (XA rfl rfl rfl (XR_nil (X_seq (X_reg (XV rfl rfl rfl ?_)))))
 refine XR_wa (opl_call (put09_ref hr3 h273 (by omega) (by omega) hokA.2.2.1) rfl (by kernel_rfl)) rfl rfl rfl ?_
 rintro v7 hp6 st6
 have hr4 := hr4.ext st6.low
 replace st := st.join st6
 refine XV rfl rfl rfl ?_
 refine XR_wa (opl_call (put09_ref hr4 h30 (by omega) (by omega) hokB.2.2.1) rfl (by kernel_rfl)) rfl rfl rfl ?_
 rintro v8 hp7 st7
 replace st := st.join st7
 simp only [List.cons_append, List.nil_append] at st
 obtain ⟨A7, n7, c7, rfl, hl7, _⟩ := st.row 1 rfl
 obtain ⟨A8, n8, c8, rfl, hl8, _, _, hr8⟩ := st.row 0 rfl
 refine XR_wa (opl_append st 1 rfl (hr8) (by rw [List.length_map, b01_length] at hl8 ⊢; omega) (one_bytes _) (by simp only [List.length_map, b01_length]; omega) rfl rfl rfl rfl rfl rfl rfl) rfl rfl rfl fun v hp st => ?_
 simp only [List.set_cons_zero, List.set_cons_succ] at st
 rw [← List.map_append, show b01 (putR la) ++ b01 (putR lb) = b01 (putR la ++ putR lb) by unfold b01; rw [List.map_append]] at st
 obtain ⟨A5, n5, c5, rfl, hl5, _⟩ := st.row 3 rfl
 obtain ⟨A6, n6, c6, rfl, hl6, _⟩ := st.row 2 rfl
 rw [List.length_map, vals_length, Nat.mul_one, h273] at hl5
 rw [List.length_map, vals_length, Nat.mul_one, h30] at hl6
 subst hl5 hl6
 obtain ⟨vo, hvo⟩ : ∃ v : Value, v = v := ⟨.slice none 0 0, rfl⟩
 clear hvo vo
 have hfl := fun i => flat_bd (syB la lb) 94 (syB_len hokA hokB) (ys.take i)
 refine XA rfl rfl rfl (XR_nil (X_seq (X_seq (X_reg (XA rfl rfl rfl (XR_nil (X_block ?_)))))))
 replace st := St.re st 8 [1, 5, 3, 4, 2, 0, 6, 7] (by decide)
 simp only [List.map_cons, List.map_nil, getR] at st
 refine X_loop (fun s => n - s.1) (fun s => [(0, .slice A n c), (5, .slice A3 273 c3), (6, .slice A4 30 c4), (7, .slice A5 273 c5), (8, .slice A6 30 c6), (9, s.2), (10, nV s.1)])
  (fun (s : Nat × Value) hp => s.1 ≤ n ∧ St h0.size h0 hp [row 5 1 s.2 ((b01 (putR la ++ putR lb ++ (ys.take s.1).flatMap (syB la lb))).map byteV), row 3 1 (.slice A3 273 c3) (la.map nV), row 3 1 (.slice A5 273 c5) ((vals la).map nV), row 3 1 (.slice A4 30 c4) (lb.map nV), row 3 1 (.slice A6 30 c6) ((vals lb).map nV)])
  (0, _) (.cons rfl (.cons rfl (.cons rfl (.cons rfl (.cons rfl (.cons rfl (.cons rfl (.nil _)))))))) ⟨Nat.zero_le _, by rw [List.take_zero, List.flatMap_nil, List.append_nil]; exact (St.re st 8 [5, 6, 7, 0, 1, 2, 3, 4] (by decide)).tail.tail.tail⟩ ?_
 clear st
 rintro ⟨i, v⟩ hp ⟨hi, st⟩
 simp only at hi st ⊢
 have hfi := hfl i
 rw [List.length_take] at hfi
 obtain ⟨A9, n9, c9, rfl, hl9, _⟩ := st.row 0 rfl
 refine X_seq (X_seq (X_reg (XV rfl rfl rfl (XV rfl rfl rfl ?_))))
 refine XR_a (op_len rfl rfl rfl) rfl rfl ?_
 refine XR_a (op_lss rfl rfl) rfl rfl ?_
 refine XR_nil ?_
 refine X_if rfl (fun h => ?_) (fun h => ?_)
 ·have hil : i < ts.length := by omega
  have hil2 : i < ys.length := by omega
  obtain ⟨t, ht⟩ : ∃ t, ts[i] = t := ⟨_, rfl⟩
  have htm : t ∈ ts := ht ▸ List.getElem_mem hil
  have hy : ys[i] = splitY t := by subst hys; rw [List.getElem_map, ht]
  obtain ⟨x1, x2, o1, o2, o3, o4⟩ := splitY_ok (hR.2 t htm) (hby t htm)
  obtain ⟨y, hye⟩ : ∃ y, splitY t = y := ⟨_, rfl⟩
  rw [hye] at hy x1 x2 o1 o2 o3 o4
  obtain ⟨gy, oy, rfl, hcy⟩ := Rd.flat tokV 3 (hr.ext st.low) (fun _ => rfl) (by omega) (by omega)
  have hcx := hcy i hil
  rw [ht] at hcx
  have htk : (ys.take (i + 1)).flatMap (syB la lb) = (ys.take i).flatMap (syB la lb) ++ syB la lb y := by rw [List.take_succ_eq_append_getElem hil2, hy, List.flatMap_append]; simp
  refine X_skip (X_seq (X_block (X_seq (X_reg (XV rfl rfl rfl (XV rfl rfl rfl ?_))))))
  refine XR_a (op_index (i := i) rfl rfl rfl (by omega)) rfl rfl ?_
  refine XR_a (op_ldA (vs := tokV t) hcx rfl rfl rfl rfl) rfl rfl ?_
  refine XR_wa (opl_call (split_ref (hR.2 t htm) (hby t htm) _) rfl (by kernel_rfl)) rfl rfl rfl ?_
  rintro _ hp4 ⟨rfl, hx4⟩
  replace st := st.ext hx4
  rw [hye]
  refine XV rfl rfl rfl (XR_a (op_extract rfl rfl) rfl rfl (XR_a (op_extract rfl rfl) rfl rfl (XR_a (op_extract rfl rfl) rfl rfl ?_)))
  refine XR_wa (opl_new rfl) rfl rfl rfl ?_
  rintro _ hp1 ⟨p11, rfl, hnew⟩
  replace st := st.new hnew
  refine XR_wa (opl_new rfl) rfl rfl rfl ?_
  rintro _ hp1 ⟨p12, rfl, hnew⟩
  replace st := st.new hnew
  refine XR_wn (opl_store_whole (us := clsV y.a) st 1 rfl rfl rfl rfl rfl (clsV_one _) rfl) rfl rfl fun _ hp st => ?_
  simp only [List.set_cons_zero, List.set_cons_succ] at st
  refine XR_wn (opl_store_whole (us := clsV y.b) st 0 rfl rfl rfl rfl rfl (clsV_one _) rfl) rfl rfl fun _ hp st => ?_
  simp only [List.set_cons_zero, List.set_cons_succ] at st
  refine XA rfl rfl rfl (XR_nil (X_seq (X_reg (XV rfl rfl rfl (XV rfl rfl rfl (XV rfl rfl rfl ?_))))))
  refine XR_a (op_ldA (vs := clsV y.a) (st.cells 1 rfl) rfl rfl rfl rfl) rfl rfl ?_
  refine XR_wa (opl_call (bits13_ref (st.rdS 3 rfl).2 h273 (st.rdS 4 rfl).2 (by rw [vals_length]; exact h273) hokA x1 (by omega)) rfl (by kernel_rfl)) rfl rfl rfl ?_
  rintro v13 hp5 st5
  replace st := st.join st5
  simp only [List.cons_append, List.nil_append] at st
  obtain ⟨B1, m1, d1, rfl, hm1, _, _, hs1⟩ := st.row 0 rfl
  have hsl1 := symB_len hokA y.a
  refine XR_wa (opl_append st 3 rfl (hs1) (by rw [List.length_map, b01_length] at hm1 ⊢; omega) (one_bytes _) (by simp only [List.length_map, b01_length, List.length_append]; omega) rfl rfl rfl rfl rfl rfl rfl) rfl rfl rfl fun v hp st => ?_
  simp only [List.set_cons_zero, List.set_cons_succ] at st
  rw [← List.map_append] at st
  replace st := (St.re st 8 [0, 3, 1, 2, 4, 5, 6, 7] (by decide)).tail
  simp only [List.map_cons, List.map_nil, getR] at st
  obtain ⟨A9, n9, c9, rfl, hl9, _⟩ := st.row 0 rfl
  refine XA rfl rfl rfl (XR_nil (X_seq (X_reg (XV rfl rfl rfl ?_))))
  refine XR_as (.bool (decide (y.m = true))) (congrArg Value.bool (by cases y.m <;> rfl)) ?_
  refine XR_nil ?_
  refine X_if rfl (fun h => ?_) (fun h => ?_)
  ·refine X_reg (XV rfl rfl rfl (XV rfl rfl rfl (XV rfl rfl rfl ?_)))
   refine XR_a (op_ldA (vs := clsV y.b) (st.cells 1 rfl) rfl rfl rfl rfl) rfl rfl ?_
   refine XR_wa (opl_call (bits13_ref (st.rdS 5 rfl).2 h30 (st.rdS 6 rfl).2 (by rw [vals_length]; exact h30) hokB x2 (by omega)) rfl (by kernel_rfl)) rfl rfl rfl ?_
   rintro v14 hp6 st6
   replace st := st.join st6
   simp only [List.cons_append, List.nil_append] at st
   obtain ⟨B1, m1, d1, rfl, hm1, _, _, hs1⟩ := st.row 0 rfl
   have hsl2 := symB_len hokB y.b
   refine XR_wa (opl_append st 1 rfl (hs1) (by rw [List.length_map, b01_length] at hm1 ⊢; omega) (one_bytes _) (by simp only [List.length_map, b01_length, List.length_append]; omega) rfl rfl rfl rfl rfl rfl rfl) rfl rfl rfl fun v hp st => ?_
   simp only [List.set_cons_zero, List.set_cons_succ] at st
   rw [← List.map_append] at st
   refine XA rfl rfl rfl (XR_nil (X_blk (X_reg (XV rfl rfl rfl ?_))))
   first | refine XR_a (op_addN (n := 1) rfl rfl (by simp only [inK]; omega)) rfl rfl ?_ | refine XR_a (op_addI rfl rfl (by simp only [inK]; omega)) rfl rfl ?_ | refine XR_a (op_add rfl rfl) rfl rfl ?_
   refine XA rfl rfl rfl (XR_nil ?_)
   have he : b01 (putR la ++ putR lb ++ (ys.take i).flatMap (syB la lb)) ++ b01 (symB la y.a) ++ b01 (symB lb y.b) = b01 (putR la ++ putR lb ++ (ys.take (i + 1)).flatMap (syB la lb)) := by
    rw [htk]; unfold syB b01; rw [if_pos h]; simp only [List.map_append, List.append_assoc]
   rw [he] at st
   exact X_again (i + 1, _) (.cons rfl (.cons rfl (.cons rfl (.cons rfl (.cons rfl (.cons rfl (.cons rfl (.nil _)))))))) ⟨by simp only; omega, (St.re st 8 [0, 2, 3, 1, 4, 5, 6, 7] (by decide)).tail.tail.tail⟩ (by simp only; omega)
  ·refine X_skip (X_blk (X_reg (XV rfl rfl rfl ?_)))
   first | refine XR_a (op_addN (n := 1) rfl rfl (by simp only [inK]; omega)) rfl rfl ?_ | refine XR_a (op_addI rfl rfl (by simp only [inK]; omega)) rfl rfl ?_ | refine XR_a (op_add rfl rfl) rfl rfl ?_
   refine XA rfl rfl rfl (XR_nil ?_)
   have he : b01 (putR la ++ putR lb ++ (ys.take i).flatMap (syB la lb)) ++ b01 (symB la y.a) = b01 (putR la ++ putR lb ++ (ys.take (i + 1)).flatMap (syB la lb)) := by
    rw [htk]; unfold syB b01; rw [if_neg h]; simp only [List.map_append, List.append_assoc, List.append_nil]
   rw [he] at st
   exact X_again (i + 1, _) (.cons rfl (.cons rfl (.cons rfl (.cons rfl (.cons rfl (.cons rfl (.cons rfl (.nil _)))))))) ⟨by simp only; omega, (St.re st 7 [1, 2, 0, 3, 4, 5, 6] (by decide)).tail.tail⟩ (by simp only; omega)
 ·rw [List.take_of_length_le (by omega)] at st hfi
  refine X_exit rfl (X_seq (X_reg (XV rfl rfl rfl (XV rfl rfl rfl (XV rfl rfl rfl ?_)))))
  refine XR_a (op_build (ps := [(0, .int .i64 256)]) (cs := (clsV ⟨256, 0, 0⟩).toArray) rfl rfl) rfl rfl ?_
  refine XR_wa (opl_call (bits13_ref (k := ⟨256, 0, 0⟩) (st.rdS 1 rfl).2 h273 (st.rdS 2 rfl).2 (by rw [vals_length]; exact h273) hokA (by decide) (by decide)) rfl (by kernel_rfl)) rfl rfl rfl ?_
  rintro v15 hp7 st7
  replace st := st.join st7
  simp only [List.cons_append, List.nil_append] at st
  obtain ⟨B1, m1, d1, rfl, hm1, _, _, hs1⟩ := st.row 0 rfl
  have hsl1 := symB_len hokA ⟨256, 0, 0⟩
  refine XR_wa (opl_append st 1 rfl (hs1) (by rw [List.length_map, b01_length] at hm1 ⊢; omega) (one_bytes _) (by simp only [List.length_map, b01_length, List.length_append]; omega) rfl rfl rfl rfl rfl rfl rfl) rfl rfl rfl fun v hp st => ?_
  simp only [List.set_cons_zero, List.set_cons_succ] at st
  rw [← List.map_append] at st
  refine XA rfl rfl rfl (XR_nil ?_)
  refine X_ret (.cons (.tmp rfl) .nil) ?_
  have hz : symB la ⟨256, 0, 0⟩ = codeBits (val la 256) (lenAt la 256) := by unfold symB; simp [wd]; rfl
  have he : b01 (putR la ++ putR lb ++ ys.flatMap (syB la lb)) ++ b01 (symB la ⟨256, 0, 0⟩) = b01 (putR la ++ putR lb ++ ys.flatMap (syB la lb) ++ codeBits (val la 256) (lenAt la 256)) := by
   rw [hz]; unfold b01; simp only [List.map_append, List.append_assoc]
  rw [he] at st
  exact (St.re st 6 [0, 2, 3, 4, 5, 1] (by decide)).tail.tail.tail.tail.tail
end Go.Bn
end

section
set_option linter.unusedVariables false
set_option linter.unusedSimpArgs false
set_option maxHeartbeats 4000000
set_option maxRecDepth 20000
namespace Go.Bn
open Go Proofs
theorem ccut_spec {n c : Nat} {A : Option Addr} {h0 : Heap} : Ret Try.prog 28 [.slice A n c] h0 fun v h' => ∃ p, v = .func (.func 53) #[] #[.pointer (some ⟨p, 0, none⟩)] ∧ St h0.size h0 h' [pt p 22 [.slice A n c]] := by
 refine ret_of_X Try.func28 rfl rfl fun w0 hw0 => ?_
 simp only [argE, Nat.zero_add, Nat.reduceAdd]
 have st := St.start h0
 refine X_seq (X_reg ?_)
 refine XR_wa (opl_bx rfl rfl) rfl rfl rfl ?_
 rintro _ hp ⟨p, rfl, hnew⟩
 have st := st.new hnew
 refine XA rfl rfl rfl (XR_nil (X_seq (X_reg ?_)))
 refine XR_a (op_mkFunc rfl) rfl rfl ?_
 refine XA rfl rfl rfl (XR_nil ?_)
 refine X_ret (.cons (.tmp rfl) .nil) ?_
 exact ⟨_, rfl, st⟩
theorem ccut_iter {B y p n c : Nat} {A : Option Addr} {b : List UInt8} {F : List Res} {h0 : Heap} (JR : List (List UInt8) → List Res) (hb : b.length = n) (hnc : n ≤ c) (hm : n ≤ 1099511627776)
  (hrd : ∀ h', Low B h0 h' → Rd h' A (b.map byteV)) (st0 : St B h0 h0 (pt p 22 [.slice A n c] :: (JR [] ++ F)))
  (hround : ∀ (s : List (List UInt8)) (x : List UInt8) (A' : Option Addr) (n' c' : Nat) (F' : List Res) (h : Heap), Low B h0 h → St B h h (JR s ++ F') → (∀ h', Low B h h' → Rd h' A' (x.map byteV)) → x.length = n' → n' ≤ c' → n' ≤ 65535 → s.length ≤ s.flatten.length → s.flatten.length + n' ≤ b.length →
   RRet Try.prog y [.slice A' n' c'] h fun v h' => v = .bool true ∧ St B h h' (JR (s ++ [x]) ++ F')) :
  Ret Try.prog 53 [.func (.yield y) #[] #[], .pointer (some ⟨p, 0, none⟩)] h0 fun _ h' => St B h0 h' (JR (chunks b) ++ F) := by
 refine ret_of_X Try.func53 rfl rfl fun w0 hw0 => ?_
 simp only [argE, Nat.zero_add, Nat.reduceAdd]
 refine X_block ?_
 refine X_loop (fun s => s.2.2.2.2.length) (fun s => [(0, .func (.yield y) #[] #[]), (1, .pointer (some ⟨p, 0, none⟩))])
  (fun (s : List (List UInt8) × Option Addr × Nat × Nat × List UInt8) hp => St B h0 hp (pt p 22 [.slice s.2.1 s.2.2.1 s.2.2.2.1] :: (JR s.1 ++ F)) ∧ (∀ h', Low B h0 h' → Rd h' s.2.1 (s.2.2.2.2.map byteV)) ∧ s.2.2.2.2.length = s.2.2.1 ∧ s.2.2.1 ≤ s.2.2.2.1 ∧
   s.1 ++ chunks s.2.2.2.2 = chunks b ∧ s.1.length ≤ s.1.flatten.length ∧ s.1.flatten.length + s.2.2.2.2.length = b.length)
  ([], A, n, c, b) (.cons rfl (.cons rfl (.nil _))) ⟨st0, hrd, hb, hnc, rfl, by simp, by simp⟩ ?_
 rintro ⟨s, A1, n1, c1, l⟩ hp ⟨st, hrd1, hl, hnc1, hs, hs1, hs2⟩
 simp only at st hrd1 hl hnc1 hs hs1 hs2 ⊢
 refine X_seq (X_seq (X_reg ?_))
 refine XR_a (op_ld (st.cell 0 (i := 0) rfl rfl) rfl rfl rfl) rfl rfl ?_
 refine XR_a (op_len rfl rfl rfl) rfl rfl ?_
 refine XR_a (op_gtr rfl rfl) rfl rfl ?_
 refine XR_nil ?_
 refine X_if rfl (fun h => ?_) (fun h => ?_)
 ·refine X_skip (X_block (X_seq (X_reg ?_)))
  refine XR_a (op_ld (st.cell 0 (i := 0) rfl rfl) rfl rfl rfl) rfl rfl ?_
  refine XR_a (op_len rfl rfl rfl) rfl rfl ?_
  refine XR_a (op_min2 rfl rfl) rfl rfl ?_
  refine XR_as (.int .i64 ((min n1 65535 : Nat) : Int)) (congrArg (Value.int .i64) (by omega)) ?_
  have hk1 : min n1 65535 ≤ n1 := Nat.min_le_left _ _
  have hk2 : min n1 65535 ≤ 65535 := Nat.min_le_right _ _
  have hk3 : 0 < min n1 65535 := by omega
  have htk : l.take (min n1 65535) = l.take 65535 := by
   rcases Nat.le_total n1 65535 with h9 | h9
   ·rw [Nat.min_eq_left h9, List.take_of_length_le (by omega), List.take_of_length_le (by omega)]
   ·rw [Nat.min_eq_right h9]
  have hdr : l.drop (min n1 65535) = l.drop 65535 := by
   rcases Nat.le_total n1 65535 with h9 | h9
   ·rw [Nat.min_eq_left h9, List.drop_of_length_le (by omega), List.drop_of_length_le (by omega)]
   ·rw [Nat.min_eq_right h9]
  have hch := chunks_cons (l := l) (by omega)
  rw [← htk, ← hdr] at hch
  generalize min n1 65535 = k at *
  refine XA rfl rfl rfl (XR_nil (X_seq (X_seq (X_reg (XV rfl rfl rfl ?_)))))
  refine XR_a (op_ld (st.cell 0 (i := 0) rfl rfl) rfl rfl rfl) rfl rfl ?_
  refine XV rfl rfl rfl ?_
  refine XR_a (op_slice_h rfl rfl rfl (by omega)) rfl rfl ?_
  rw [cutA_zero]
  refine XR_ya (opy_yield rfl (hround s (l.take k) A1 k c1 (pt p 22 [.slice A1 n1 c1] :: F) _ st.low (st.here.perm List.perm_middle.symm) (fun h' hl => by rw [List.map_take]; exact (hrd1 _ (st.low.trans hl)).take k) (by rw [List.length_take]; omega) (by omega) (by omega) hs1 (by omega)) rfl) rfl rfl rfl ?_
  rintro _ hp ⟨rfl, st2⟩
  replace st := st.trans (st2.perm List.perm_middle)
  first | refine XR_a (op_notd rfl) rfl rfl ?_ | refine XR_a (op_not rfl) rfl rfl ?_
  refine XR_nil (X_else rfl (X_skip (X_reg ?_)))
  refine XR_a (op_ld (st.cell 0 (i := 0) rfl rfl) rfl rfl rfl) rfl rfl ?_
  refine XV rfl rfl rfl ?_
  refine XR_a (op_slice_l rfl rfl rfl (by omega) (by omega)) rfl rfl ?_
  refine XR_wn (opl_store_pt st 0 rfl rfl rfl rfl rfl (rfl)) rfl rfl fun _ hp st => ?_
  simp only [List.set_cons_zero, List.set_cons_succ] at st
  refine XR_nil (X_blk ?_)
  refine X_again (s ++ [l.take k], cutA A1 k 1 c1, n1 - k, c1 - k, l.drop k) (.cons rfl (.cons rfl (.nil _))) ⟨st, fun h' hlow => ?_, ?_, ?_, ?_, ?_, ?_⟩ ?_
  ·have hcut := (hrd1 h' hlow).cut k 1 c1 (n1 - k) (by intro hh; simp; omega)
   rw [Nat.mul_one, ← List.map_drop, ← List.map_take, List.take_of_length_le (i := n1 - k) (by rw [List.length_drop]; omega)] at hcut
   exact hcut
  ·simp only [List.length_drop]; omega
  ·simp only; omega
  ·simp only; rw [← hs, hch]; simp
  ·simp only [List.flatten_append, List.flatten_cons, List.flatten_nil, List.append_nil, List.length_append, List.length_cons, List.length_nil, List.length_take]; omega
  ·simp only [List.flatten_append, List.flatten_cons, List.flatten_nil, List.append_nil, List.length_append, List.length_take, List.length_drop]; omega
  ·simp only [List.length_drop]; omega
 ·refine X_exit rfl ?_
  refine X_end .nil ?_
  have hl0 : l = [] := List.eq_nil_of_length_eq_zero (by omega)
  rw [hl0, chunks_nil, List.append_nil] at hs
  rw [← hs]
  exact st.tail
theorem piece_spec {n c : Nat} {A : Option Addr} {b : List UInt8} {h0 : Heap} (hr : Rd h0 A (b.map byteV)) (hb : b.length = n) (hnc : n ≤ c) (hm : n ≤ 68719476736) :
  Ret Try.prog 10 [.slice A n c] h0 fun v h' => St h0.size h0 h' [row 5 1 v ((pieceB b).map byteV)] := by
 refine ret_of_X Try.func10 rfl rfl fun w0 hw0 => ?_
 simp only [argE, Nat.zero_add, Nat.reduceAdd]
 have st := St.start h0
 refine X_seq (X_reg (XA rfl rfl rfl (XR_nil (X_seq (X_reg ?_)))))
 refine XR_wa (opl_new rfl) rfl rfl rfl ?_
 rintro _ hp ⟨p3, rfl, hnew⟩
 replace st := st.new hnew
 refine XR_nil (X_seq (X_seq (X_reg (XV rfl rfl rfl ?_))))
 refine XR_wa (opl_call (ccut_spec) rfl (by kernel_rfl)) rfl rfl rfl ?_
 rintro _ hp ⟨pc, rfl, st2⟩
 replace st := st.join st2
 simp only [List.cons_append, List.nil_append] at st
 refine XR_nil (X_block ?_)
 refine X_rangeS st rfl rfl (by kernel_rfl) fun fn tmps L y d hp1 hL hok hx1 st1 => ?_
 have st1' := (st1.nilrow 5 1).re 5 [4, 0, 3, 1, 2] (by decide)
 simp only [List.map_cons, List.map_nil, getR] at st1'
 have st2 := St.perm (St.ex.2 ⟨Value.slice none 0 0, St.star.2 st1'⟩ : St h0.size h0 hp1 ((exR fun v => starR (pt p3 22 [v]) (row 5 1 v ((pieceS []).map byteV))) :: _)) (List.Perm.swap _ _ _)
 refine Ret.mono (ccut_iter (B := h0.size) (y := y) (F := [obj d (.deferred (some []))]) (fun s => [exR fun v => starR (pt p3 22 [v]) (row 5 1 v ((pieceS s).map byteV)), obj y (L .ready none)]) hb hnc (by omega) (fun h' hlow => hr.ext (st1.low.trans hlow)) st2.here ?_) ?_
 ·intro s x A' n' c' F' h hlow st2 hrx hlx hnx hx16 hs1 hs2
  subst hL
  simp only [List.cons_append, List.nil_append] at st2
  obtain ⟨v, st2⟩ := St.ex.1 st2
  replace st2 := (St.star.1 st2)
  have hpl := pieceS_len s
  obtain ⟨A5, n5, c5, rfl, hlen5, _, _, _⟩ := st2.row 1 rfl
  refine rret_of_X (st2.obj_at 2 rfl) hok rfl rfl fun w0 hw0 => ?_
  simp only [penv]
  refine X_reg (XA rfl rfl rfl (XR_nil ?_))
  refine X_begin (st2.obj_at 2 rfl) ?_
  have st := st2.loop 2 .busy none rfl
  simp only [List.set_cons_zero, List.set_cons_succ] at st
  refine X_block (X_reg ?_)
  refine XR_a (op_ld (st.cell 0 (i := 0) rfl rfl) rfl rfl rfl) rfl rfl ?_
  refine XV rfl rfl rfl ?_
  refine XR_a (op_len rfl rfl rfl) rfl rfl ?_
  first | refine XR_a (op_convI rfl rfl (by simp only [inK]; omega)) rfl rfl ?_ | refine XR_a (op_convU rfl rfl rfl) rfl rfl ?_ | refine XR_a (op_conv rfl rfl) rfl rfl ?_
  refine XR_wa (opl_call (fput_spec (n := n') (st.here.perm (List.Perm.swap _ _ _)) (by omega) (by omega)) rfl (by kernel_rfl)) rfl rfl rfl ?_
  rintro v7 hp st3
  have st := (st.trans st3).perm (List.Perm.swap _ _ _)
  rw [wid2] at st
  refine XV rfl rfl rfl ?_
  refine XR_wa (opl_append st 1 rfl (hrx _ st.low) (by simpa using hlx) (one_bytes _) (by simp [leB_length]; omega) rfl rfl rfl rfl rfl rfl rfl) rfl rfl rfl fun v hp st => ?_
  simp only [List.set_cons_zero, List.set_cons_succ] at st
  rw [← List.map_append] at st
  obtain ⟨A6, n6, c6, rfl, hlen6, _, _, _⟩ := st.row 1 rfl
  refine XR_wn (opl_store_pt st 0 rfl rfl rfl rfl rfl (rfl)) rfl rfl fun _ hp st => ?_
  simp only [List.set_cons_zero, List.set_cons_succ] at st
  refine XR_nil (X_blk ?_)
  refine X_rnd (st.obj_at 2 rfl) ⟨rfl, ?_⟩
  replace st := st.loop 2 .ready none rfl
  simp only [List.set_cons_zero, List.set_cons_succ] at st
  rw [show pieceS s ++ leB 2 n' ++ x = pieceS (s ++ [x]) by rw [pieceS_snoc, hlx]] at st
  exact St.ex.2 ⟨_, St.star.2 st⟩
 rintro v h' st2
 simp only [List.cons_append, List.nil_append] at st2
 refine .inl ⟨_, (st1.trans st2).perm (List.Perm.swap _ _ _), fun hp3 st3 => ?_⟩
 obtain ⟨v9, st3⟩ := St.ex.1 (st3.perm (List.Perm.swap _ _ _))
 have st := St.star.1 st3
 refine X_blk (X_seq (X_reg ?_))
 refine XR_a (op_ld (st.cell 0 (i := 0) rfl rfl) rfl rfl rfl) rfl rfl ?_
 refine XA rfl rfl rfl (XR_nil ?_)
 refine X_retM (d := d) (.cons (.tmp rfl) .nil) ?_ (st.obj_at 3 rfl)
 replace st := st.put 3 (.deferred none) rfl
 exact st.tail.only
theorem pieceB_len (l : List UInt8) : (pieceB l).length ≤ 3 * l.length := by
 obtain ⟨h1, h2⟩ := chunks_ok l.length l (Nat.le_refl _)
 have h3 := flatten_len_ge (s := chunks l) fun x hx => (h2 x hx).1
 rw [h1] at h3
 simp only [pieceB, pieceS_len, h1]; omega
theorem stream_spec {m c : Nat} {A : Option Addr} {rs : List BR} {h0 : Heap} (hr : Rd h0 A (rs.map BR.v)) (hl : rs.length = m) (hok : ∀ b ∈ rs, b.ok h0) (hm : m ≤ 1099511627776) :
  Ret Try.prog 11 [.slice A m c] h0 fun v h' => ∃ v1, v = retVal [v1, .int .i64 (streamN (rs.map BR.l) 0 []).2] ∧ St h0.size h0 h' [row 5 1 v1 ((streamN (rs.map BR.l) 0 []).1.map byteV)] := by
 obtain ⟨R, hR⟩ : ∃ R, streamN (rs.map BR.l) 0 [] = R := ⟨_, rfl⟩
 rw [hR]
 refine ret_of_X Try.func11 rfl rfl fun w0 hw0 => ?_
 simp only [argE, Nat.zero_add, Nat.reduceAdd]
 refine X_seq (X_reg (XA rfl rfl rfl (XA rfl rfl rfl (XR_nil (X_seq (X_reg (XA rfl rfl rfl (XR_nil (X_seq ?_)))))))))
 refine X_reg (XA rfl rfl rfl (XR_nil (X_seq (X_seq (X_reg (XV rfl rfl rfl ?_))))))
 refine XR_a (op_len rfl rfl rfl) rfl rfl ?_
 refine XV rfl rfl rfl (XR_nil (X_block ?_))
 have st := (St.start h0).nilrow 5 1
 refine X_loop (fun s => m - s.1) (fun s => [(8, .slice A m c), (9, .int .i64 (m : Int)), (10, .int .i64 (s.1 : Int)), (4, s.2.2.1), (5, .int .i64 (s.2.1 : Int))])
  (fun (s : Nat × Nat × Value × List UInt8) hp => St h0.size h0 hp [row 5 1 s.2.2.1 (s.2.2.2.map byteV)] ∧ s.1 ≤ m ∧ s.2.1 ≤ 65536 ∧ s.2.2.2.length ≤ 3 * s.2.1 ∧ streamN ((rs.drop s.1).map BR.l) s.2.1 s.2.2.2 = R)
  (0, 0, _, []) (.cons rfl (.cons rfl (.cons rfl (.cons rfl (.cons rfl (.nil _)))))) ⟨st, by simp, by simp, by simp, hR⟩ ?_
 clear st
 rintro ⟨i, n, v, out⟩ hp ⟨st, hi, hn, hout, hS⟩
 simp only at st hi hn hout hS ⊢
 refine X_seq (X_reg ?_)
 refine XR_a (op_lss rfl rfl) rfl rfl ?_
 refine XR_nil (X_seq ?_)
 refine X_if rfl (fun h => ?_) (fun h => ?_)
 ·have him : i < rs.length := by omega
  obtain ⟨gb, o, rfl, hc⟩ := (hr.ext st.low).at_ (by rw [List.length_map]; omega)
  have hci := hc i (BR.v rs[i]) (by simp [him])
  have hbo := hok rs[i] (List.getElem_mem him)
  rw [List.drop_eq_getElem_cons him, List.map_cons, streamN] at hS
  have hpb := pieceB_len rs[i].l
  have hbl := hbo.len
  obtain ⟨b, hb⟩ : ∃ b, rs[i] = b := ⟨_, rfl⟩
  rw [hb] at hci hbo hS hpb hbl
  refine X_skip (X_seq (X_block (X_seq (X_reg ?_))))
  first | refine XR_a (op_index1 rfl rfl rfl (by omega)) rfl rfl ?_ | refine XR_a (op_index rfl rfl rfl (by omega)) rfl rfl ?_
  refine XR_a (op_ld (hci) rfl rfl rfl) rfl rfl ?_
  refine XA rfl rfl rfl (XR_nil (X_seq (X_seq (X_reg (XV rfl rfl rfl ?_)))))
  refine XR_a (op_len rfl rfl rfl) rfl rfl ?_
  refine XV rfl rfl rfl ?_
  refine XR_a (op_subN (m := 65536) (n := n) rfl rfl (by omega) (by simp only [inK]; omega)) rfl rfl ?_
  refine XR_a (op_gtr rfl rfl) rfl rfl ?_
  refine XR_nil ?_
  refine X_if rfl (fun h => ?_) (fun h => ?_)
  ·refine X_seq (X_reg (XA rfl rfl rfl (XA rfl rfl rfl (XR_nil ?_))))
   refine X_ret (.cons (.tmp rfl) (.cons (.tmp rfl) .nil)) ?_
   rw [if_pos (by omega)] at hS
   rw [← hS]
   exact ⟨_, rfl, (st.nilrow 5 1).only⟩
  ·rw [if_neg (by omega)] at hS
   refine X_skip (X_seq (X_reg (XV rfl rfl rfl (XV rfl rfl rfl ?_))))
   refine XR_a (op_len rfl rfl rfl) rfl rfl ?_
   first | refine XR_a (op_addN rfl rfl (by simp only [inK]; omega)) rfl rfl ?_ | refine XR_a (op_addI rfl rfl (by simp only [inK]; omega)) rfl rfl ?_ | refine XR_a (op_add rfl rfl) rfl rfl ?_
   refine XA rfl rfl rfl (XR_nil (X_reg (XV rfl rfl rfl (XV rfl rfl rfl ?_))))
   refine XR_wa (opl_call (piece_spec (hbo.rd.ext st.low) hbl hbo.le (by omega)) rfl (by kernel_rfl)) rfl rfl rfl ?_
   rintro v2 hp st2
   obtain ⟨A2, n2, c2, rfl, hlen2, _, _, hrd2⟩ := st2.row 0 rfl
   replace st := st.ext st2.low
   refine XR_wa (opl_append st 0 rfl (hrd2) (by simpa using hlen2) (one_bytes _) (by simp; omega) rfl rfl rfl rfl rfl rfl rfl) rfl rfl rfl fun v hp st => ?_
   simp only [List.set_cons_zero, List.set_cons_succ] at st
   rw [← List.map_append] at st
   refine XA rfl rfl rfl (XR_nil (X_blk (X_reg ?_)))
   first | refine XR_a (op_addN (n := 1) rfl rfl (by simp only [inK]; omega)) rfl rfl ?_ | refine XR_a (op_addI rfl rfl (by simp only [inK]; omega)) rfl rfl ?_ | refine XR_a (op_add rfl rfl) rfl rfl ?_
   refine XV rfl rfl rfl (XR_nil ?_)
   exact X_again (i + 1, n + b.l.length, v, out ++ pieceB b.l) (.cons rfl (.cons rfl (.cons rfl (.cons rfl (.cons (by rw [hbl]; rfl) (.nil _)))))) ⟨st, by simp only; omega, by simp only; omega, by simp only [List.length_append]; omega, hS⟩ (by simp only; omega)
 ·obtain rfl : i = m := by omega
  rw [List.drop_of_length_le (by omega), List.map_nil, streamN] at hS
  refine X_exit rfl (X_seq (X_reg (XV rfl rfl rfl ?_)))
  refine XR_wa (opl_call (fput_spec (n := 0) st.here (by omega) (by omega)) rfl (by kernel_rfl)) rfl rfl rfl ?_
  rintro v2 hp st2
  replace st := st.trans st2
  rw [wid2] at st
  refine XA rfl rfl rfl (XA rfl rfl rfl (XR_nil ?_))
  refine X_ret (.cons (.tmp rfl) (.cons (.tmp rfl) .nil)) ?_
  rw [← hS]
  exact ⟨_, rfl, st⟩
end Go.Bn
end
