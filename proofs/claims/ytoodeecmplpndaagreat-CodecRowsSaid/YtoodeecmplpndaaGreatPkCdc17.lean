/- Packed texts of a claim: what its theorem uses, joined. -/
import Derived.Test.YtoodeecmplpndaaGreatPkCdc16
section
set_option linter.unusedVariables false
set_option linter.unusedSimpArgs false
set_option maxHeartbeats 4000000
set_option maxRecDepth 20000
namespace Go.Bn
open Go Proofs
theorem fits_ok {s m : Nat} {h0 : Heap} (hs : s < 19) (hm1 : rL s ≤ m) (hm2 : m ≤ rH s) : Ret Tryz.prog 112 [.agg #[nV s, nV m]] h0 fun v h' => v = .bool true ∧ Ext h0 h' := by
 have h16 : s = 16 → 3 ≤ m ∧ m ≤ 6 := fun h => by subst h; exact ⟨hm1, hm2⟩
 have h17 : s = 17 → 3 ≤ m ∧ m ≤ 10 := fun h => by subst h; exact ⟨hm1, hm2⟩
 have h18 : s = 18 → 11 ≤ m ∧ m ≤ 138 := fun h => by subst h; exact ⟨hm1, hm2⟩
 have hle : s < 16 → m = 1 := fun h => by
  unfold rL at hm1; unfold rH at hm2
  rw [if_neg (by omega), if_neg (by omega), if_neg (by omega)] at hm1 hm2
  omega
 refine ret_of_X Tryz.func112 rfl rfl fun w0 hw0 => ?_
 simp only [argE, Nat.zero_add, Nat.reduceAdd]
 have st := St.start h0
 refine X_seq (X_reg ?_)
 refine XR_wa (opl_bx (cs := [nV s, nV m]) rfl rfl) rfl rfl rfl ?_
 rintro _ hp ⟨p, rfl, hnew⟩
 replace st := st.new hnew
 refine XA rfl rfl rfl (XR_nil (X_seq (X_seq (X_reg ?_))))
 first | refine XR_a (op_field0 rfl rfl) rfl rfl ?_ | refine XR_a (op_fieldn rfl rfl) rfl rfl ?_
 refine XR_a (op_ld (st.cell 0 (i := 0) rfl rfl) rfl rfl rfl) rfl rfl ?_
 refine XR_nil (X_block (X_seq (X_reg ?_)))
 refine XR_a (op_eql rfl rfl) rfl rfl ?_
 refine XA rfl rfl rfl (XR_nil ?_)
 refine X_if rfl (fun h => ?_) (fun h => ?_)
 ·refine X_seq (X_reg ?_)
  first | refine XR_a (op_field0 rfl rfl) rfl rfl ?_ | refine XR_a (op_fieldn rfl rfl) rfl rfl ?_
  refine XR_a (op_ld (st.cell 0 (i := 1) rfl rfl) rfl rfl rfl) rfl rfl ?_
  refine XR_a (op_geq rfl rfl) rfl rfl ?_
  refine XR_as (.bool true) (congrArg Value.bool (decide_eq_true (by have := h16 (by omega); omega))) ?_
  refine XV rfl rfl rfl ?_
  first | refine XR_a (op_field0 rfl rfl) rfl rfl ?_ | refine XR_a (op_fieldn rfl rfl) rfl rfl ?_
  refine XR_a (op_ld (st.cell 0 (i := 1) rfl rfl) rfl rfl rfl) rfl rfl ?_
  refine XR_a (op_leq rfl rfl) rfl rfl ?_
  refine XR_as (.bool true) (congrArg Value.bool (decide_eq_true (by have := h16 (by omega); omega))) ?_
  refine XR_a (op_pick_t rfl rfl) rfl rfl (XA rfl rfl rfl (XR_nil ?_))
  refine X_ret (.cons (.tmp rfl) .nil) ?_
  exact ⟨rfl, st.low⟩
 ·refine X_seq (X_reg ?_)
  refine XR_a (op_eql rfl rfl) rfl rfl ?_
  refine XA rfl rfl rfl (XR_nil ?_)
  refine X_if rfl (fun h => ?_) (fun h => ?_)
  ·refine X_seq (X_reg ?_)
   first | refine XR_a (op_field0 rfl rfl) rfl rfl ?_ | refine XR_a (op_fieldn rfl rfl) rfl rfl ?_
   refine XR_a (op_ld (st.cell 0 (i := 1) rfl rfl) rfl rfl rfl) rfl rfl ?_
   refine XR_a (op_geq rfl rfl) rfl rfl ?_
   refine XR_as (.bool true) (congrArg Value.bool (decide_eq_true (by have := h17 (by omega); omega))) ?_
   refine XV rfl rfl rfl ?_
   first | refine XR_a (op_field0 rfl rfl) rfl rfl ?_ | refine XR_a (op_fieldn rfl rfl) rfl rfl ?_
   refine XR_a (op_ld (st.cell 0 (i := 1) rfl rfl) rfl rfl rfl) rfl rfl ?_
   refine XR_a (op_leq rfl rfl) rfl rfl ?_
   refine XR_as (.bool true) (congrArg Value.bool (decide_eq_true (by have := h17 (by omega); omega))) ?_
   refine XR_a (op_pick_t rfl rfl) rfl rfl (XA rfl rfl rfl (XR_nil ?_))
   refine X_ret (.cons (.tmp rfl) .nil) ?_
   exact ⟨rfl, st.low⟩
  ·refine X_seq (X_reg ?_)
   refine XR_a (op_eql rfl rfl) rfl rfl ?_
   refine XA rfl rfl rfl (XR_nil ?_)
   refine X_if rfl (fun h => ?_) (fun h => ?_)
   ·refine X_seq (X_reg ?_)
    first | refine XR_a (op_field0 rfl rfl) rfl rfl ?_ | refine XR_a (op_fieldn rfl rfl) rfl rfl ?_
    refine XR_a (op_ld (st.cell 0 (i := 1) rfl rfl) rfl rfl rfl) rfl rfl ?_
    refine XR_a (op_geq rfl rfl) rfl rfl ?_
    refine XR_as (.bool true) (congrArg Value.bool (decide_eq_true (by have := h18 (by omega); omega))) ?_
    refine XV rfl rfl rfl ?_
    first | refine XR_a (op_field0 rfl rfl) rfl rfl ?_ | refine XR_a (op_fieldn rfl rfl) rfl rfl ?_
    refine XR_a (op_ld (st.cell 0 (i := 1) rfl rfl) rfl rfl rfl) rfl rfl ?_
    refine XR_a (op_leq rfl rfl) rfl rfl ?_
    refine XR_as (.bool true) (congrArg Value.bool (decide_eq_true (by have := h18 (by omega); omega))) ?_
    refine XR_a (op_pick_t rfl rfl) rfl rfl (XA rfl rfl rfl (XR_nil ?_))
    refine X_ret (.cons (.tmp rfl) .nil) ?_
    exact ⟨rfl, st.low⟩
   ·refine X_skip (X_blk (X_seq (X_reg ?_)))
    first | refine XR_a (op_field0 rfl rfl) rfl rfl ?_ | refine XR_a (op_fieldn rfl rfl) rfl rfl ?_
    refine XR_a (op_ld (st.cell 0 (i := 0) rfl rfl) rfl rfl rfl) rfl rfl ?_
    refine XR_a (op_geq rfl rfl) rfl rfl ?_
    refine XR_as (.bool true) (congrArg Value.bool (decide_eq_true (by omega))) ?_
    refine XV rfl rfl rfl ?_
    first | refine XR_a (op_field0 rfl rfl) rfl rfl ?_ | refine XR_a (op_fieldn rfl rfl) rfl rfl ?_
    refine XR_a (op_ld (st.cell 0 (i := 0) rfl rfl) rfl rfl rfl) rfl rfl ?_
    refine XR_a (op_lss rfl rfl) rfl rfl ?_
    refine XR_as (.bool true) (congrArg Value.bool (decide_eq_true (by omega))) ?_
    refine XR_a (op_pick_t rfl rfl) rfl rfl (XV rfl rfl rfl ?_)
    first | refine XR_a (op_field0 rfl rfl) rfl rfl ?_ | refine XR_a (op_fieldn rfl rfl) rfl rfl ?_
    refine XR_a (op_ld (st.cell 0 (i := 1) rfl rfl) rfl rfl rfl) rfl rfl ?_
    refine XR_a (op_eql rfl rfl) rfl rfl ?_
    refine XR_as (.bool true) (congrArg Value.bool (decide_eq_true (by have := hle (by omega); omega))) ?_
    refine XR_a (op_pick_t rfl rfl) rfl rfl (XA rfl rfl rfl (XR_nil ?_))
    refine X_ret (.cons (.tmp rfl) .nil) ?_
    exact ⟨rfl, st.low⟩
theorem join_16 {m c : Nat} {A : Option Addr} {h0 : Heap} (hr : Rd h0 A [nV 16, nV m]) (hm1 : 3 ≤ m) (hm2 : m ≤ 6) : Ret Tryz.prog 71 [.slice A 1 c] h0 fun v h' => v = retVal [.slice none 0 0, nV 3] ∧ Ext h0 h' := by
 refine ret_of_X Tryz.func71 rfl rfl fun w0 hw0 => ?_
 simp only [argE, Nat.zero_add, Nat.reduceAdd]
 refine X_seq (X_reg (XA rfl rfl rfl (XA rfl rfl rfl (XR_nil (X_seq (X_reg (XA rfl rfl rfl (XR_nil (X_seq ?_)))))))))
 refine X_seq (X_reg (XA rfl rfl rfl (XR_nil (X_block ?_))))
 obtain ⟨g, o, rfl, hc⟩ := hr.at_ (by simp)
 refine X_loop (fun _ => 0) (fun (_ : Unit) => [(0, .slice (some ⟨g, o, none⟩) 1 c), (4, .slice none 0 0), (5, nV 0)]) (fun _ hp => h0 = hp) () (.cons rfl (.cons rfl (.cons rfl (.nil _)))) rfl ?_
 rintro ⟨⟩ hp rfl
 refine X_seq (X_seq (X_reg (XV rfl rfl rfl (XV rfl rfl rfl ?_))))
 refine XR_a (op_len rfl rfl rfl) rfl rfl ?_
 refine XR_a (op_lss rfl rfl) rfl rfl ?_
 refine XR_nil (X_then rfl (X_skip (X_seq (X_block (X_seq (X_seq (X_reg (XV rfl rfl rfl (XV rfl rfl rfl ?_)))))))))
 refine XR_a (op_index (i := 0) rfl rfl rfl (by omega)) rfl rfl ?_
 refine XR_a (op_ldA (o := o + 0 * 2) (vs := [nV 16, nV m]) (fun j u hu => by rw [show o + 0 * 2 + j = o + j by omega]; exact hc j u hu) rfl rfl rfl rfl) rfl rfl ?_
 refine XR_wa (opl_call (fits_ok (s := 16) (m := m) (by decide) hm1 hm2) rfl (by kernel_rfl)) rfl rfl rfl ?_
 rintro _ hp ⟨rfl, hx⟩
 first | refine XR_a (op_notd rfl) rfl rfl ?_ | refine XR_a (op_not rfl) rfl rfl ?_
 refine XV rfl rfl rfl (XV rfl rfl rfl (XV rfl rfl rfl ?_))
 refine XR_a (op_index (i := 0) rfl rfl rfl (by omega)) rfl rfl ?_
 first | refine XR_a (op_field0 rfl rfl) rfl rfl ?_ | refine XR_a (op_fieldn rfl rfl) rfl rfl ?_
 refine XR_a (op_ld (cellH_ext hx (a := ⟨g, o + 0 * 2 + 0, none⟩) (hc 0 _ rfl)) rfl rfl rfl) rfl rfl ?_
 refine XR_a (op_eql rfl rfl) rfl rfl ?_
 refine XV rfl rfl rfl (XV rfl rfl rfl ?_)
 refine XR_a (op_len rfl rfl rfl) rfl rfl ?_
 refine XR_a (op_eql rfl rfl) rfl rfl ?_
 refine XR_a (op_pick_t rfl rfl) rfl rfl (XR_a (op_pick_f rfl rfl) rfl rfl (XR_nil (X_then rfl (X_seq (X_reg (XA rfl rfl rfl (XA rfl rfl rfl (XR_nil ?_))))))))
 refine X_ret (.cons (.tmp rfl) (.cons (.tmp rfl) .nil)) ?_
 exact ⟨rfl, hx⟩
theorem join_ok {s m c : Nat} {A : Option Addr} {h0 : Heap} (hr : Rd h0 A [nV s, nV m]) (hs : s < 19) (h16 : s ≠ 16) (hm1 : rL s ≤ m) (hm2 : m ≤ rH s) :
  Ret Tryz.prog 71 [.slice A 1 c] h0 fun v h' => ∃ w, v = retVal [w, nV 0] ∧ St h0.size h0 h' [row 3 1 w ((List.replicate m (rV [] s)).map nV)] := by
 have hrh := rH_le s
 refine ret_of_X Tryz.func71 rfl rfl fun w0 hw0 => ?_
 simp only [argE, Nat.zero_add, Nat.reduceAdd]
 refine X_seq (X_reg (XA rfl rfl rfl (XA rfl rfl rfl (XR_nil (X_seq (X_reg (XA rfl rfl rfl (XR_nil (X_seq ?_)))))))))
 refine X_seq (X_reg (XA rfl rfl rfl (XR_nil (X_block ?_))))
 obtain ⟨g, o, rfl, hc⟩ := hr.at_ (by simp)
 have st := (St.start h0).nilrow 3 1
 refine X_loop (fun s => 1 - s.1) (fun s => [(0, .slice (some ⟨g, o, none⟩) 1 c), (4, s.2), (5, nV s.1)]) (fun (z : Nat × Value) hp => z.1 ≤ 1 ∧ St h0.size h0 hp [row 3 1 z.2 ((if z.1 = 0 then [] else List.replicate m (rV [] s)).map nV)])
  (0, _) (.cons rfl (.cons rfl (.cons rfl (.nil _)))) ⟨by simp only; omega, st⟩ ?_
 clear st
 rintro ⟨i, v⟩ hp ⟨hi, st⟩
 simp only at hi st ⊢
 refine X_seq (X_seq (X_reg (XV rfl rfl rfl (XV rfl rfl rfl ?_))))
 refine XR_a (op_len rfl rfl rfl) rfl rfl ?_
 refine XR_a (op_lss rfl rfl) rfl rfl ?_
 refine XR_nil ?_
 refine X_if rfl (fun h => ?_) (fun h => ?_)
 ·obtain rfl : i = 0 := by omega
  rw [if_pos rfl] at st
  refine X_skip (X_seq (X_block (X_seq (X_seq (X_reg (XV rfl rfl rfl (XV rfl rfl rfl ?_)))))))
  refine XR_a (op_index (i := 0) rfl rfl rfl (by omega)) rfl rfl ?_
  refine XR_a (op_ldA (o := o + 0 * 2) (vs := [nV s, nV m]) (fun j u hu => by rw [show o + 0 * 2 + j = o + j by omega]; exact cellH_ext (a := ⟨g, o + j, none⟩) st.low (hc j u hu)) rfl rfl rfl rfl) rfl rfl ?_
  refine XR_wa (opl_call (fits_ok (s := s) (m := m) hs hm1 hm2) rfl (by kernel_rfl)) rfl rfl rfl ?_
  rintro _ hp ⟨rfl, hx⟩
  replace st := st.ext hx
  first | refine XR_a (op_notd rfl) rfl rfl ?_ | refine XR_a (op_not rfl) rfl rfl ?_
  refine XV rfl rfl rfl (XV rfl rfl rfl (XV rfl rfl rfl ?_))
  refine XR_a (op_index (i := 0) rfl rfl rfl (by omega)) rfl rfl ?_
  first | refine XR_a (op_field0 rfl rfl) rfl rfl ?_ | refine XR_a (op_fieldn rfl rfl) rfl rfl ?_
  refine XR_a (op_ld (cellH_ext st.low (a := ⟨g, o + 0 * 2 + 0, none⟩) (hc 0 _ rfl)) rfl rfl rfl) rfl rfl ?_
  refine XR_a (op_eql rfl rfl) rfl rfl ?_
  refine XR_as (.bool false) (congrArg Value.bool (decide_eq_false (by omega))) ?_
  refine XV rfl rfl rfl (XR_no rfl rfl (XR_no rfl rfl (XR_no rfl rfl (XR_a (op_pick_f rfl rfl) rfl rfl (XR_a (op_pick_f rfl rfl) rfl rfl (XR_nil (X_else rfl (X_skip (X_seq ?_)))))))))
  refine X_reg (XV rfl rfl rfl (XV rfl rfl rfl ?_))
  refine XR_a (op_index (i := 0) rfl rfl rfl (by omega)) rfl rfl ?_
  first | refine XR_a (op_field0 rfl rfl) rfl rfl ?_ | refine XR_a (op_fieldn rfl rfl) rfl rfl ?_
  refine XR_a (op_ld (cellH_ext st.low (a := ⟨g, o + 0 * 2 + 0, none⟩) (hc 0 _ rfl)) rfl rfl rfl) rfl rfl ?_
  refine XA rfl rfl rfl (XR_nil (X_seq (X_seq (X_reg (XV rfl rfl rfl ?_)))))
  refine XR_a (op_eql rfl rfl) rfl rfl ?_
  refine XR_nil ?_
  refine X_if rfl (fun h => ?_) (fun h => ?_)
  ·exact absurd h (by omega)
  ·refine X_skip (X_seq (X_seq (X_reg (XV rfl rfl rfl ?_))))
   refine XR_a (op_gtr rfl rfl) rfl rfl ?_
   refine XR_nil ?_
   refine X_if rfl (fun h => ?_) (fun h => ?_)
   ·have hv : rV [] s = 0 := by unfold rV; rw [if_neg h16, if_pos (by omega)]
    refine X_reg (XA rfl rfl rfl (XR_nil (X_seq (X_seq (X_reg (XA rfl rfl rfl (XR_nil (X_block ?_))))))))
    refine X_loop (fun s => m - s.1) (fun s => [(0, .slice (some ⟨g, o, none⟩) 1 c), (4, s.2), (5, nV 0), (6, nV 0), (7, nV s.1)]) (fun (z : Nat × Value) hp => z.1 ≤ m ∧ St h0.size h0 hp [row 3 1 z.2 ((List.replicate z.1 (rV [] s)).map nV)])
     (0, v) (.cons rfl (.cons rfl (.cons rfl (.cons rfl (.cons rfl (.nil _)))))) ⟨by simp only; omega, st⟩ ?_
    clear st
    rintro ⟨k, v⟩ hp ⟨hk, st⟩
    simp only at hk st ⊢
    refine X_seq (X_seq (X_reg (XV rfl rfl rfl (XV rfl rfl rfl (XV rfl rfl rfl ?_)))))
    refine XR_a (op_index (i := 0) rfl rfl rfl (by omega)) rfl rfl ?_
    first | refine XR_a (op_field0 rfl rfl) rfl rfl ?_ | refine XR_a (op_fieldn rfl rfl) rfl rfl ?_
    refine XR_a (op_ld (cellH_ext st.low (a := ⟨g, o + 0 * 2 + 1, none⟩) (hc 1 _ rfl)) rfl rfl rfl) rfl rfl ?_
    refine XR_a (op_lss rfl rfl) rfl rfl ?_
    refine XR_nil ?_
    refine X_if rfl (fun h => ?_) (fun h => ?_)
    ·refine X_skip (X_seq (X_block (X_reg (XV rfl rfl rfl (XV rfl rfl rfl ?_)))))
     refine XR_wa (opl_var1 rfl rfl rfl) rfl rfl rfl ?_
     rintro _ hp ⟨A, rfl, hx, hrd⟩
     have st := st.ext hx
     refine XR_wa (opl_append st 0 rfl (hrd) (rfl) (by simp [Value.one, byteV]) (by simp; omega) rfl rfl rfl rfl rfl rfl rfl) rfl rfl rfl fun v hp st => ?_
     simp only [List.set_cons_zero, List.set_cons_succ] at st
     refine XA rfl rfl rfl (XR_nil (X_blk (X_reg (XV rfl rfl rfl ?_))))
     first | refine XR_a (op_addN (n := 1) rfl rfl (by simp only [inK]; omega)) rfl rfl ?_ | refine XR_a (op_addI rfl rfl (by simp only [inK]; omega)) rfl rfl ?_ | refine XR_a (op_add rfl rfl) rfl rfl ?_
     refine XA rfl rfl rfl (XR_nil ?_)
     have e : (List.replicate k (rV [] s)).map nV ++ [nV 0] = (List.replicate (k + 1) (rV [] s)).map nV := by rw [List.replicate_succ', List.map_append, hv]; rfl
     rw [e] at st
     exact X_again (k + 1, v) (.cons rfl (.cons rfl (.cons rfl (.cons rfl (.cons rfl (.nil _)))))) ⟨by simp only; omega, st⟩ (by simp only; omega)
    ·refine X_exit rfl (X_seq ?_)
     obtain rfl : k = m := by omega
     obtain ⟨A9, n9, c9, rfl, hl9, _, _, _⟩ := st.row 0 rfl
     rw [List.length_map, List.length_replicate, Nat.mul_one] at hl9
     refine X_reg (XV rfl rfl rfl ?_)
     refine XR_a (op_len rfl rfl rfl) rfl rfl ?_
     refine XR_a (op_gtr rfl rfl) rfl rfl ?_
     refine XR_nil ?_
     refine X_if rfl (fun h => ?_) (fun h => ?_)
     ·exact absurd h (by omega)
     ·refine X_skip (X_blk (X_reg (XV rfl rfl rfl ?_)))
      first | refine XR_a (op_addN (n := 1) rfl rfl (by simp only [inK]; omega)) rfl rfl ?_ | refine XR_a (op_addI rfl rfl (by simp only [inK]; omega)) rfl rfl ?_ | refine XR_a (op_add rfl rfl) rfl rfl ?_
      refine XA rfl rfl rfl (XR_nil ?_)
      exact X_again (1, _) (.cons rfl (.cons rfl (.cons rfl (.nil _)))) ⟨Nat.le_refl _, by rw [if_neg (by simp)]; exact st⟩ (by simp)
   ·have hv : rV [] s = s := by unfold rV; rw [if_neg h16, if_neg (by omega)]
    refine X_skip (X_seq (X_seq (X_reg (XA rfl rfl rfl (XR_nil (X_block ?_))))))
    refine X_loop (fun s => m - s.1) (fun z => [(0, .slice (some ⟨g, o, none⟩) 1 c), (4, z.2), (5, nV 0), (6, nV s), (7, nV z.1)]) (fun (z : Nat × Value) hp => z.1 ≤ m ∧ St h0.size h0 hp [row 3 1 z.2 ((List.replicate z.1 (rV [] s)).map nV)])
     (0, v) (.cons rfl (.cons rfl (.cons rfl (.cons rfl (.cons rfl (.nil _)))))) ⟨by simp only; omega, st⟩ ?_
    clear st
    rintro ⟨k, v⟩ hp ⟨hk, st⟩
    simp only at hk st ⊢
    refine X_seq (X_seq (X_reg (XV rfl rfl rfl (XV rfl rfl rfl (XV rfl rfl rfl ?_)))))
    refine XR_a (op_index (i := 0) rfl rfl rfl (by omega)) rfl rfl ?_
    first | refine XR_a (op_field0 rfl rfl) rfl rfl ?_ | refine XR_a (op_fieldn rfl rfl) rfl rfl ?_
    refine XR_a (op_ld (cellH_ext st.low (a := ⟨g, o + 0 * 2 + 1, none⟩) (hc 1 _ rfl)) rfl rfl rfl) rfl rfl ?_
    refine XR_a (op_lss rfl rfl) rfl rfl ?_
    refine XR_nil ?_
    refine X_if rfl (fun h => ?_) (fun h => ?_)
    ·refine X_skip (X_seq (X_block (X_reg (XV rfl rfl rfl (XV rfl rfl rfl ?_)))))
     refine XR_wa (opl_var1 rfl rfl rfl) rfl rfl rfl ?_
     rintro _ hp ⟨A, rfl, hx, hrd⟩
     have st := st.ext hx
     refine XR_wa (opl_append st 0 rfl (hrd) (rfl) (by simp [Value.one, byteV]) (by simp; omega) rfl rfl rfl rfl rfl rfl rfl) rfl rfl rfl fun v hp st => ?_
     simp only [List.set_cons_zero, List.set_cons_succ] at st
     refine XA rfl rfl rfl (XR_nil (X_blk (X_reg (XV rfl rfl rfl ?_))))
     first | refine XR_a (op_addN (n := 1) rfl rfl (by simp only [inK]; omega)) rfl rfl ?_ | refine XR_a (op_addI rfl rfl (by simp only [inK]; omega)) rfl rfl ?_ | refine XR_a (op_add rfl rfl) rfl rfl ?_
     refine XA rfl rfl rfl (XR_nil ?_)
     have e : (List.replicate k (rV [] s)).map nV ++ [nV s] = (List.replicate (k + 1) (rV [] s)).map nV := by rw [List.replicate_succ', List.map_append, hv]; rfl
     rw [e] at st
     exact X_again (k + 1, v) (.cons rfl (.cons rfl (.cons rfl (.cons rfl (.cons rfl (.nil _)))))) ⟨by simp only; omega, st⟩ (by simp only; omega)
    ·refine X_exit rfl (X_seq ?_)
     obtain rfl : k = m := by omega
     obtain ⟨A9, n9, c9, rfl, hl9, _, _, _⟩ := st.row 0 rfl
     rw [List.length_map, List.length_replicate, Nat.mul_one] at hl9
     refine X_reg (XV rfl rfl rfl ?_)
     refine XR_a (op_len rfl rfl rfl) rfl rfl ?_
     refine XR_a (op_gtr rfl rfl) rfl rfl ?_
     refine XR_nil ?_
     refine X_if rfl (fun h => ?_) (fun h => ?_)
     ·exact absurd h (by omega)
     ·refine X_skip (X_blk (X_reg (XV rfl rfl rfl ?_)))
      first | refine XR_a (op_addN (n := 1) rfl rfl (by simp only [inK]; omega)) rfl rfl ?_ | refine XR_a (op_addI rfl rfl (by simp only [inK]; omega)) rfl rfl ?_ | refine XR_a (op_add rfl rfl) rfl rfl ?_
      refine XA rfl rfl rfl (XR_nil ?_)
      exact X_again (1, _) (.cons rfl (.cons rfl (.cons rfl (.nil _)))) ⟨Nat.le_refl _, by rw [if_neg (by simp)]; exact st⟩ (by simp)
 ·refine X_exit rfl (X_seq (X_reg (XV rfl rfl rfl (XA rfl rfl rfl (XA rfl rfl rfl (XR_nil ?_))))))
  refine X_ret (.cons (.tmp rfl) (.cons (.tmp rfl) .nil)) ?_
  rw [if_neg (by omega)] at st
  exact ⟨_, rfl, st⟩
theorem take09_ref {m c a : Nat} {A : Option Addr} {bs : List Bool} {h0 : Heap} (hr : Rd h0 A ((b01 bs).map byteV)) (hl : bs.length = m) (hm : m ≤ 1048576) (hmc : m ≤ c) (ha : a ≤ m) :
  Ret Tryz.prog 35 [.slice A m c, nV a] h0 fun v h' => ∃ w x, v = retVal [w, nV x, nV (takeR bs a (okR bs a)).2.2] ∧ ((takeR bs a (okR bs a)).2.2 = 0 → x = (takeR bs a (okR bs a)).2.1) ∧
   St h0.size h0 h' [row 3 1 w ((takeR bs a (okR bs a)).1.map nV)] := by
 have hR : takeR bs a (okR bs a) = if headE bs a (okR bs a) ≠ 0 then ([], 0, headE bs a (okR bs a)) else goT (lens19 bs (a + 9) 19) bs (numB bs a 9) 321 (a + 85) [] := rfl
 obtain ⟨R, hRe⟩ : ∃ R, takeR bs a (okR bs a) = R := ⟨_, rfl⟩
 rw [hRe] at hR ⊢
 have hH : headE bs a (okR bs a) = if bs.length < a + 9 then 2 else if numB bs a 9 < 1 ∨ 320 < numB bs a 9 then 5 else if bs.length < a + 85 then 2 else if okR bs a = true then 0 else 13 := rfl
 have hokr : okR bs a = decide (rightC ((lens19 bs (a + 9) 19).map fun n : Nat => (n : Int))) := rfl
 have hn9 := numB_lt bs a 9
 have hn4 := fun i => numB_lt bs (a + 9 + 4 * i) 4
 have st0 := St.start h0
 have bad : ∀ e, headE bs a (okR bs a) = e → e ≠ 0 → R = ([], 0, e) := fun e he h => by rw [hR, if_pos (by omega), he]
 refine ret_of_X Tryz.func35 rfl rfl fun w0 hw0 => ?_
 simp only [argE, Nat.zero_add, Nat.reduceAdd]
 refine X_seq (X_reg (XA rfl rfl rfl (XA rfl rfl rfl (XA rfl rfl rfl (XR_nil (X_seq (X_seq (X_reg (XV rfl rfl rfl ?_)))))))))
 refine XR_a (op_len rfl rfl rfl) rfl rfl ?_
 refine XV rfl rfl rfl ?_
 first | refine XR_a (op_subN rfl rfl (by omega) (by simp only [inK]; omega)) rfl rfl ?_ | refine XR_a (op_subI rfl rfl (by simp only [inK]; omega)) rfl rfl ?_ | refine XR_a (op_sub rfl rfl) rfl rfl ?_
 refine XR_a (op_lss rfl rfl) rfl rfl ?_
 refine XR_nil ?_
 refine X_if rfl (fun h => ?_) (fun h => ?_)
 ·refine X_seq (X_reg (XA rfl rfl rfl (XA rfl rfl rfl (XA rfl rfl rfl (XR_nil ?_)))))
  refine X_ret (.cons (.tmp rfl) (.cons (.tmp rfl) (.cons (.tmp rfl) .nil))) ?_
  rw [bad 2 (by rw [hH, if_pos (by omega)]) (by omega)]
  exact ⟨_, 0, rfl, fun hh => absurd hh (by decide), st0.nilrow 3 1⟩
 ·refine X_skip (X_seq (X_reg (XV rfl rfl rfl (XV rfl rfl rfl ?_))))
  refine XR_wa (opl_call (number_ref (k := 9) hr hl (by omega) (by omega)) rfl (by kernel_rfl)) rfl rfl rfl ?_
  rintro _ _ ⟨rfl, rfl⟩
  rw [show wd 32 9 = 9 from rfl]
  refine XR_a (op_convI (k' := .i64) rfl rfl (by simp only [inK]; omega)) rfl rfl ?_
  refine XA rfl rfl rfl (XR_nil (X_seq (X_seq (X_reg (XV rfl rfl rfl ?_)))))
  refine XR_a (op_lss rfl rfl) rfl rfl ?_
  refine XV rfl rfl rfl ?_
  refine XR_if 30 rfl (fun h => ?_) (fun h => ?_)
  ·have h30 := h
   refine XR_no rfl rfl (XR_no rfl rfl (XR_a (op_pick_t rfl rfl) rfl rfl (XR_nil (X_then rfl (X_seq (X_reg (XA rfl rfl rfl (XA rfl rfl rfl (XA rfl rfl rfl ?_)))))))))
   refine XR_nil ?_
   refine X_ret (.cons (.tmp rfl) (.cons (.tmp rfl) (.cons (.tmp rfl) .nil))) ?_
   rw [bad 5 (by rw [hH, if_neg (by omega), if_pos (by omega)]) (by omega)]
   exact ⟨_, 0, rfl, fun hh => absurd hh (by decide), st0.nilrow 3 1⟩
  ·refine XV rfl rfl rfl ?_
   refine XR_a (op_gtr rfl rfl) rfl rfl ?_
   refine XR_a (op_pick_f rfl rfl) rfl rfl (XR_nil ?_)
   refine X_if rfl (fun h => ?_) (fun h => ?_)
   ·refine X_seq (X_reg (XA rfl rfl rfl (XA rfl rfl rfl (XA rfl rfl rfl (XR_nil ?_)))))
    refine X_ret (.cons (.tmp rfl) (.cons (.tmp rfl) (.cons (.tmp rfl) .nil))) ?_
    rw [bad 5 (by rw [hH, if_neg (by omega), if_pos (by omega)]) (by omega)]
    exact ⟨_, 0, rfl, fun hh => absurd hh (by decide), st0.nilrow 3 1⟩
   ·refine X_skip (X_seq (X_reg (XV rfl rfl rfl ?_)))
    first | refine XR_a (op_addN (n := 9) rfl rfl (by simp only [inK]; omega)) rfl rfl ?_ | refine XR_a (op_addI rfl rfl (by simp only [inK]; omega)) rfl rfl ?_ | refine XR_a (op_add rfl rfl) rfl rfl ?_
    refine XA rfl rfl rfl (XR_nil (X_seq (X_seq (X_reg (XV rfl rfl rfl ?_)))))
    refine XR_a (op_len rfl rfl rfl) rfl rfl ?_
    refine XV rfl rfl rfl ?_
    first | refine XR_a (op_subN rfl rfl (by omega) (by simp only [inK]; omega)) rfl rfl ?_ | refine XR_a (op_subI rfl rfl (by simp only [inK]; omega)) rfl rfl ?_ | refine XR_a (op_sub rfl rfl) rfl rfl ?_
    refine XR_a (op_lss rfl rfl) rfl rfl ?_
    refine XR_nil ?_
    refine X_if rfl (fun h => ?_) (fun h => ?_)
    ·refine X_seq (X_reg (XA rfl rfl rfl (XA rfl rfl rfl (XA rfl rfl rfl (XR_nil ?_)))))
     refine X_ret (.cons (.tmp rfl) (.cons (.tmp rfl) (.cons (.tmp rfl) .nil))) ?_
     rw [bad 2 (by rw [hH, if_neg (by omega), if_neg (by omega), if_pos (by omega)]) (by omega)]
     exact ⟨_, 0, rfl, fun hh => absurd hh (by decide), st0.nilrow 3 1⟩
    ·refine X_skip (X_seq (X_reg ?_))
     refine XR_wa (opl_mk (n := 19) (by omega) rfl rfl rfl) rfl rfl rfl ?_
     rintro v hp hnew
     have st := st0.new hnew
     obtain ⟨go, no, co, rfl, hno, _⟩ := st.row0 0 rfl (by rw [List.length_replicate]; omega)
     obtain rfl : no = 19 := by simpa using hno.symm
     refine XA rfl rfl rfl (XR_nil (X_seq (X_seq (X_reg (XA rfl rfl rfl (XR_nil (X_block ?_)))))))
     have hz : List.replicate 19 (Value.int .i64 0) = (lens19 bs (a + 9) 0).map nV := by rw [lens19_zero, List.map_replicate]; rfl
     rw [hz] at st
     obtain ⟨n, hn⟩ : ∃ n, numB bs a 9 = n := ⟨_, rfl⟩
     rw [hn]
     refine X_loop (fun i => 19 - i) (fun i => [(0, .slice A m c), (1, nV (a + 9 + 4 * i)), (7, nV n), (8, .slice (some ⟨go, 0, none⟩) 19 co), (9, nV i)])
      (fun (i : Nat) hp => i ≤ 19 ∧ St h0.size h0 hp [row 3 1 (.slice (some ⟨go, 0, none⟩) 19 co) ((lens19 bs (a + 9) i).map nV)])
      0 (.cons rfl (.cons rfl (.cons rfl (.cons rfl (.cons rfl (.nil _)))))) ⟨by omega, st⟩ ?_
     clear st
     rintro i hp ⟨hi, st⟩
     refine X_seq (X_seq (X_reg (XV rfl rfl rfl ?_)))
     refine XR_a (op_lss rfl rfl) rfl rfl ?_
     refine XR_nil ?_
     refine X_if rfl (fun h => ?_) (fun h => ?_)
     ·have hlt4 := hn4 i
      refine X_skip (X_seq (X_block (X_seq (X_reg (XV rfl rfl rfl (XV rfl rfl rfl (XV rfl rfl rfl (XV rfl rfl rfl ?_))))))))
      refine XR_wa (opl_call (number_ref (k := 4) (hr.ext st.low) hl (by omega) (by omega)) rfl (by kernel_rfl)) rfl rfl rfl ?_
      rintro _ _ ⟨rfl, rfl⟩
      rw [show wd 32 4 = 4 from rfl]
      refine XR_a (op_convI (k' := .i64) rfl rfl (by simp only [inK]; omega)) rfl rfl ?_
      first | refine XR_a (op_index1 rfl rfl rfl (by omega)) rfl rfl ?_ | refine XR_a (op_index rfl rfl rfl (by omega)) rfl rfl ?_
      refine XR_wn (opl_store_row (o := 0) (i := i) (v := nV (numB bs (a + 9 + 4 * i) 4)) st 0 rfl (congrArg (fun x => some (Value.pointer (some ⟨go, x, none⟩))) (by omega)) rfl (by rw [List.length_map, lens19_len]; omega) rfl rfl) rfl rfl fun _ hp st => ?_
      simp only [List.set_cons_zero] at st
      rw [map_set_nV, lens19_set (by omega)] at st
      refine XR_nil (X_reg (XV rfl rfl rfl ?_))
      first | refine XR_a (op_addN (n := 4) rfl rfl (by simp only [inK]; omega)) rfl rfl ?_ | refine XR_a (op_addI rfl rfl (by simp only [inK]; omega)) rfl rfl ?_ | refine XR_a (op_add rfl rfl) rfl rfl ?_
      refine XA rfl rfl rfl (XR_nil (X_blk (X_reg (XV rfl rfl rfl ?_))))
      first | refine XR_a (op_addN (n := 1) rfl rfl (by simp only [inK]; omega)) rfl rfl ?_ | refine XR_a (op_addI rfl rfl (by simp only [inK]; omega)) rfl rfl ?_ | refine XR_a (op_add rfl rfl) rfl rfl ?_
      refine XA rfl rfl rfl (XR_nil ?_)
      exact X_again (i + 1) (.cons rfl (.cons (by rw [show a + 9 + 4 * (i + 1) = a + 9 + 4 * i + 4 by omega]; rfl) (.cons rfl (.cons rfl (.cons rfl (.nil _)))))) ⟨by omega, st⟩ (by omega)
     ·refine X_exit rfl (X_seq (X_seq ?_))
      obtain rfl : i = 19 := by omega
      have h19 := lens19_len bs (a + 9) 19
      obtain ⟨ls, hls⟩ : ∃ ls, lens19 bs (a + 9) 19 = ls := ⟨_, rfl⟩
      rw [hls] at st hR h19 hokr
      have hrdL := (st.rdS 0 rfl).2
      rw [nV_iV] at hrdL
      refine X_reg (XV rfl rfl rfl ?_)
      by_cases hRC : rightC (ls.map fun n : Nat => (n : Int))
      ·refine XR_wa (opl_call (right08_ref hrdL (by rw [List.length_map, h19]) (by omega)) rfl (by kernel_rfl)) rfl rfl rfl ?_
       rintro _ hp5 ⟨rfl, rfl⟩
       rw [decide_eq_true hRC]
       first | refine XR_a (op_notd rfl) rfl rfl ?_ | refine XR_a (op_not rfl) rfl rfl ?_
       refine XR_nil (X_else rfl (X_skip (X_seq ?_)))
       have he0 : headE bs a (okR bs a) = 0 := by rw [hH, if_neg (by omega), if_neg (by omega), if_neg (by omega), hokr, decide_eq_true hRC]; rfl
       have hlok : lensOK ls := by have := hRC.ok; rwa [cast_toNat] at this
       rw [if_neg (by omega), hn] at hR
       obtain ⟨hn1, hn320⟩ := headE_num he0
       rw [hn] at hn1 hn320
       refine X_reg (XV rfl rfl rfl ?_)
       refine XR_wa (opl_call (values08_ref (ls := ls) (st.rdS 0 rfl).2 h19 hlok) rfl (by kernel_rfl)) rfl rfl rfl ?_
       rintro v10 hp10 st10
       obtain ⟨A10, n10, c10, rfl, hl10, _, _, _⟩ := st10.row 0 rfl
       rw [List.length_map, vals_length, h19, Nat.mul_one] at hl10
       obtain rfl : n10 = 19 := by omega
       replace st := (st.join st10)
       simp only [List.cons_append, List.nil_append] at st
       refine XA rfl rfl rfl (XR_nil (X_seq (X_reg (XA rfl rfl rfl (XR_nil (X_seq (X_block ?_)))))))
       replace st := st.nilrow 3 1
       refine X_loop (fun s => n - s.2.2.1.length) (fun s => [(0, .slice A m c), (1, nV s.2.1), (7, nV n), (8, .slice (some ⟨go, 0, none⟩) 19 co), (10, .slice A10 19 c10), (11, s.2.2.2)])
        (fun (s : Nat × Nat × List Nat × Value) hp => goT ls bs n s.1 s.2.1 s.2.2.1 = R ∧ n < s.1 + s.2.2.1.length ∧ s.2.2.1.length ≤ n ∧ s.2.1 ≤ m ∧ St h0.size h0 hp [row 3 1 s.2.2.2 (s.2.2.1.map nV), row 3 1 (.slice A10 19 c10) ((vals ls).map nV), row 3 1 (.slice (some ⟨go, 0, none⟩) 19 co) (ls.map nV)])
        (321, a + 85, [], _) (.cons rfl (.cons rfl (.cons rfl (.cons rfl (.cons rfl (.cons rfl (.nil _))))))) ⟨hR.symm, by simp only [List.length_nil]; omega, by simp, by simp only; omega, st⟩ ?_
       clear st
       rintro ⟨f, a1, L, v⟩ hp ⟨hg, hf, hLn, ha1, st⟩
       simp only at hg hf hLn ha1 st ⊢
       obtain ⟨A9, n9, c9, rfl, hl9, _, _, _⟩ := st.row 0 rfl
       rw [List.length_map, Nat.mul_one] at hl9
       refine X_seq (X_seq (X_reg (XV rfl rfl rfl ?_)))
       refine XR_a (op_len rfl rfl rfl) rfl rfl ?_
       refine XV rfl rfl rfl ?_
       refine XR_a (op_lss rfl rfl) rfl rfl ?_
       refine XR_nil ?_
       refine X_if rfl (fun h => ?_) (fun h => ?_)
       ·obtain ⟨f', rfl⟩ : ∃ f', f = f' + 1 := ⟨f - 1, by omega⟩
        have ht08 := take08_ref (c := co) (d := c10) (st.rdS 2 rfl).2 h19 (st.rdS 1 rfl).2 hlok (hr.ext st.low) hl hm hmc ha1
        rw [← takeC_S hlok] at ht08
        have hle := takeC_le ls (bs.drop a1)
        have hsym := fun h => takeC_sym hlok (bs := bs.drop a1) h
        have hO : oneR ls bs a1 = if (takeC ls (bs.drop a1)).2.2 ≠ 0 then (0, 0, (takeC ls (bs.drop a1)).2.2, a1 + (takeC ls (bs.drop a1)).2.1) else if bs.length < a1 + (takeC ls (bs.drop a1)).2.1 + rW (takeC ls (bs.drop a1)).1 then (0, 0, 2, a1 + (takeC ls (bs.drop a1)).2.1) else
         ((takeC ls (bs.drop a1)).1, rL (takeC ls (bs.drop a1)).1 + numB bs (a1 + (takeC ls (bs.drop a1)).2.1) (rW (takeC ls (bs.drop a1)).1), 0, a1 + (takeC ls (bs.drop a1)).2.1 + rW (takeC ls (bs.drop a1)).1) := rfl
        obtain ⟨⟨s, k, e⟩, hT⟩ : ∃ T, takeC ls (bs.drop a1) = T := ⟨_, rfl⟩
        rw [hT] at ht08 hle hO
        simp only [hT] at hsym
        simp only at ht08 hle hO
        rw [List.length_drop] at hle
        have hw7 := rW_le s
        have hnw := numB_lt bs (a1 + k) (rW s)
        have hp7 : 2 ^ rW s ≤ 128 := Nat.le_trans (Nat.pow_le_pow_right (n := 2) (by omega) hw7) (by decide)
        have hrl : 1 ≤ rL s := rL_pos s
        have hrl2 : rL s ≤ 11 := by unfold rL; split <;> (try split) <;> (try split) <;> omega
        refine X_skip (X_block (X_seq (X_reg (XV rfl rfl rfl (XV rfl rfl rfl (XV rfl rfl rfl (XV rfl rfl rfl ?_)))))))
        refine XR_wa (opl_call (ht08) rfl (by kernel_rfl)) rfl rfl rfl ?_
        rintro _ hp6 ⟨rfl, hx6⟩
        replace st := st.ext hx6
        refine XV rfl rfl rfl (XR_a (op_extract rfl rfl) rfl rfl (XR_a (op_extract rfl rfl) rfl rfl (XR_a (op_extract rfl rfl) rfl rfl (XA rfl rfl rfl (XA rfl rfl rfl (XA rfl rfl rfl (XR_nil (X_seq (X_seq ?_)))))))))
        refine X_reg (XV rfl rfl rfl ?_)
        refine XR_a (op_neq rfl rfl) rfl rfl ?_
        refine XR_nil ?_
        refine X_if rfl (fun h => ?_) (fun h => ?_)
        ·refine X_seq (X_reg (XV rfl rfl rfl (XA rfl rfl rfl (XA rfl rfl rfl (XA rfl rfl rfl (XR_nil ?_))))))
         refine X_ret (.cons (.tmp rfl) (.cons (.tmp rfl) (.cons (.tmp rfl) .nil))) ?_
         rw [if_pos (by omega)] at hO
         rw [goT_step (by omega) hO, if_pos (by omega)] at hg
         rw [← hg]
         exact ⟨_, 0, rfl, fun hh => absurd hh (by simp only; omega), (st.keep 0).nilrow 3 1⟩
        ·obtain rfl : e = 0 := by omega
         obtain ⟨hs19, _, _⟩ := hsym rfl
         rw [if_neg (show ¬ (0 : Nat) ≠ 0 by omega)] at hO
         refine X_skip (X_seq (X_reg (XV rfl rfl rfl (XV rfl rfl rfl ?_))))
         first | refine XR_a (op_addN rfl rfl (by simp only [inK]; omega)) rfl rfl ?_ | refine XR_a (op_addI rfl rfl (by simp only [inK]; omega)) rfl rfl ?_ | refine XR_a (op_add rfl rfl) rfl rfl ?_
         refine XA rfl rfl rfl (XR_nil (X_seq (X_reg (XV rfl rfl rfl ?_))))
         refine XR_wa (opl_call (extra_ref s _) rfl (by kernel_rfl)) rfl rfl rfl ?_
         rintro _ _ ⟨rfl, rfl⟩
         refine XV rfl rfl rfl (XR_a (op_extract rfl rfl) rfl rfl (XR_a (op_extract rfl rfl) rfl rfl (XA rfl rfl rfl ?_)))
         by_cases h16 : s = 16
         ·refine XA rfl rfl rfl (XR_nil (X_seq (X_seq (X_reg (XV rfl rfl rfl ?_)))))
          refine XR_a (op_len rfl rfl rfl) rfl rfl ?_
          refine XV rfl rfl rfl ?_
          refine XR_a (op_subN (m := m) (n := a1 + k) rfl rfl (by omega) (by simp only [inK]; omega)) rfl rfl ?_
          refine XV rfl rfl rfl ?_
          refine XR_a (op_lss rfl rfl) rfl rfl ?_
          refine XR_nil ?_
          refine X_if rfl (fun h => ?_) (fun h => ?_)
          ·refine X_seq (X_reg (XA rfl rfl rfl (XA rfl rfl rfl (XA rfl rfl rfl (XR_nil ?_)))))
           refine X_ret (.cons (.tmp rfl) (.cons (.tmp rfl) (.cons (.tmp rfl) .nil))) ?_
           rw [if_pos (by omega)] at hO
           rw [goT_step (by omega) hO, if_pos (by omega)] at hg
           rw [← hg]
           exact ⟨_, 0, rfl, fun hh => absurd hh (by decide), (st.keep 0).nilrow 3 1⟩
          ·refine X_skip (X_seq ?_)
           rw [if_neg (by omega)] at hO
           rw [goT_step (by omega) hO, if_neg (show ¬ (0 : Nat) ≠ 0 by omega)] at hg
           have hnum := rL_num hnw
           refine X_reg (XV rfl rfl rfl (XV rfl rfl rfl (XV rfl rfl rfl (XV rfl rfl rfl (XV rfl rfl rfl ?_)))))
           refine XR_wa (opl_call (number_ref (k := ((rW s : Nat) : Int)) (hr.ext st.low) hl (by omega) (by omega)) rfl (by kernel_rfl)) rfl rfl rfl ?_
           rintro _ _ ⟨rfl, rfl⟩
           rw [wd_nat (by omega)]
           refine XR_a (op_convI (k' := .i64) rfl rfl (by simp only [inK]; omega)) rfl rfl ?_
           refine XR_a (op_addN (m := rL s) (n := numB bs (a1 + k) (rW s)) rfl rfl (by simp only [inK]; omega)) rfl rfl ?_
           obtain ⟨y, hy⟩ : ∃ y, rL s + numB bs (a1 + k) (rW s) = y := ⟨_, rfl⟩
           rw [hy] at hg hnum ⊢
           refine XR_a (op_build (ps := [(0, nV s), (1, nV y)]) (cs := #[nV s, nV y]) rfl rfl) rfl rfl ?_
           have hy3 : 3 ≤ y := by
            have : rL s = 3 := by rw [h16]; rfl
            omega
           have hy6 : y ≤ 6 := by
            have : rH s = 6 := by rw [h16]; rfl
            omega
           refine XR_wa (opl_varA (us := [nV s, nV y]) rfl rfl rfl rfl (by kernel_rfl)) rfl rfl rfl ?_
           rintro _ hp ⟨A7, rfl, hx7, hrd7⟩
           replace st := st.ext hx7
           refine XR_wa (opl_call (join_16 (m := y) (by rw [← h16]; exact hrd7) hy3 hy6) rfl (by kernel_rfl)) rfl rfl rfl ?_
           rintro _ hp8 ⟨rfl, hx8⟩
           replace st := st.ext hx8
           refine XV rfl rfl rfl (XR_a (op_extract rfl rfl) rfl rfl (XR_a (op_extract rfl rfl) rfl rfl (XA rfl rfl rfl (XA rfl rfl rfl (XR_nil (X_seq (X_seq ?_)))))))
           subst h16
           refine X_reg (XV rfl rfl rfl ?_)
           refine XR_a (op_eql rfl rfl) rfl rfl ?_
           refine XV rfl rfl rfl (XV rfl rfl rfl ?_)
           refine XR_a (op_len rfl rfl rfl) rfl rfl ?_
           refine XR_a (op_gtr rfl rfl) rfl rfl ?_
           refine XR_a (op_pick_t rfl rfl) rfl rfl (XR_nil ?_)
           refine X_if rfl (fun h => ?_) (fun h => ?_)
           ·refine X_seq (X_reg (XA rfl rfl rfl (XR_nil (X_seq (X_reg (XA rfl rfl rfl (XR_nil (X_seq (X_reg ?_)))))))))
            refine XA rfl rfl rfl (XR_nil (X_block ?_))
            have hL1 : 1 ≤ L.length := by omega
            rw [if_neg (by omega)] at hg
            have hvL : rV L 16 = L.getD (n9 - 1) 0 := by unfold rV; rw [if_pos rfl, hl9]
            have hyn : y = 3 + numB bs (a1 + k) 2 := hy.symm
            obtain ⟨g9, o9, rfl, _⟩ := (st.rdS 0 rfl).2.at_ (by rw [List.length_map]; omega)
            replace st := st.nilrow 3 1
            refine X_loop (fun s => y - s.1) (fun z => [(0, .slice A m c), (1, nV (a1 + k)), (7, nV n), (8, .slice (some ⟨go, 0, none⟩) 19 co), (10, .slice A10 19 c10), (11, .slice (some ⟨g9, o9, none⟩) n9 c9), (14, nV 0), (15, nV (rW 16)), (17, z.2), (18, nV z.1)])
             (fun (z : Nat × Value) hp => z.1 ≤ y ∧ St h0.size h0 hp [row 3 1 z.2 ((List.replicate z.1 (rV L 16)).map nV), row 3 1 (.slice (some ⟨g9, o9, none⟩) n9 c9) (L.map nV), row 3 1 (.slice A10 19 c10) ((vals ls).map nV), row 3 1 (.slice (some ⟨go, 0, none⟩) 19 co) (ls.map nV)])
             (0, _) (.cons rfl (.cons rfl (.cons rfl (.cons rfl (.cons rfl (.cons rfl (.cons rfl (.cons rfl (.cons rfl (.cons rfl (.nil _))))))))))) ⟨Nat.zero_le _, st⟩ ?_
            clear st
            rintro ⟨i, v⟩ hp9 ⟨hiy, st⟩
            simp only at hiy st ⊢
            have hn2 := numB_lt bs (a1 + k) 2
            refine X_seq (X_seq (X_reg (XV rfl rfl rfl (XV rfl rfl rfl (XV rfl rfl rfl ?_)))))
            refine XR_wa (opl_call (number_ref (k := 2) (hr.ext st.low) hl (by omega) (by omega)) rfl (by kernel_rfl)) rfl rfl rfl ?_
            rintro _ _ ⟨rfl, rfl⟩
            rw [show wd 32 2 = 2 from rfl]
            refine XR_a (op_convI (k' := .i64) rfl rfl (by simp only [inK]; omega)) rfl rfl ?_
            refine XR_a (op_addN (m := 3) (n := numB bs (a1 + k) 2) rfl rfl (by simp only [inK]; omega)) rfl rfl ?_
            rw [← hyn]
            refine XR_a (op_lss rfl rfl) rfl rfl ?_
            refine XR_nil ?_
            refine X_if rfl (fun h => ?_) (fun h => ?_)
            ·obtain ⟨_, _, he9, hc9⟩ := (st.rdS 1 rfl).2.at_ (by rw [List.length_map]; omega)
             cases he9
             have hlast := hc9 (n9 - 1) (nV (rV L 16)) (by rw [hvL, List.getElem?_map, List.getElem?_eq_getElem (by omega), getD_get (by omega)]; rfl)
             refine X_skip (X_seq (X_block (X_reg (XV rfl rfl rfl (XV rfl rfl rfl (XV rfl rfl rfl ?_))))))
             refine XR_a (op_len rfl rfl rfl) rfl rfl ?_
             first | refine XR_a (op_subN (n := 1) rfl rfl (by omega) (by simp only [inK]; omega)) rfl rfl ?_ | refine XR_a (op_subI rfl rfl (by simp only [inK]; omega)) rfl rfl ?_ | refine XR_a (op_sub rfl rfl) rfl rfl ?_
             refine XR_a (op_index1 (i := n9 - 1) rfl rfl rfl (by omega)) rfl rfl ?_
             refine XR_a (op_ld (hlast) rfl rfl rfl) rfl rfl ?_
             refine XR_wa (opl_var1 rfl rfl rfl) rfl rfl rfl ?_
             rintro _ hp ⟨A, rfl, hx, hrd⟩
             have st := st.ext hx
             refine XR_wa (opl_append st 0 rfl (hrd) (rfl) (by simp [Value.one, byteV]) (by simp; omega) rfl rfl rfl rfl rfl rfl rfl) rfl rfl rfl fun v hp st => ?_
             simp only [List.set_cons_zero, List.set_cons_succ] at st
             have e : (List.replicate i (rV L 16)).map nV ++ [nV (rV L 16)] = (List.replicate (i + 1) (rV L 16)).map nV := by rw [List.replicate_succ', List.map_append]; rfl
             rw [e] at st
             refine XA rfl rfl rfl (XR_nil (X_blk (X_reg (XV rfl rfl rfl ?_))))
             first | refine XR_a (op_addN (n := 1) rfl rfl (by simp only [inK]; omega)) rfl rfl ?_ | refine XR_a (op_addI rfl rfl (by simp only [inK]; omega)) rfl rfl ?_ | refine XR_a (op_add rfl rfl) rfl rfl ?_
             refine XA rfl rfl rfl (XR_nil ?_)
             exact X_again (i + 1, v) (.cons rfl (.cons rfl (.cons rfl (.cons rfl (.cons rfl (.cons rfl (.cons rfl (.cons rfl (.cons rfl (.cons rfl (.nil _))))))))))) ⟨by simp only; omega, st⟩ (by simp only; omega)
            ·obtain rfl : i = y := by omega
             obtain ⟨A8, n8, c8, rfl, hl8, _, _, _⟩ := st.row 0 rfl
             rw [List.length_map, List.length_replicate, Nat.mul_one] at hl8
             refine X_exit rfl (X_seq (X_reg (XV rfl rfl rfl (XV rfl rfl rfl ?_))))
             first | refine XR_a (op_addN rfl rfl (by simp only [inK]; omega)) rfl rfl ?_ | refine XR_a (op_addI rfl rfl (by simp only [inK]; omega)) rfl rfl ?_ | refine XR_a (op_add rfl rfl) rfl rfl ?_
             refine XA rfl rfl rfl (XR_nil (X_seq (X_reg (XV rfl rfl rfl (XV rfl rfl rfl ?_)))))
             refine XR_wa (opl_append st 1 rfl ((st.rdS 0 rfl).2) (by rw [List.length_map, List.length_replicate]; omega) (one_nV _) (by simp; omega) rfl rfl rfl rfl rfl rfl rfl) rfl rfl rfl fun v hp st => ?_
             simp only [List.set_cons_zero, List.set_cons_succ] at st
             rw [← List.map_append] at st
             obtain ⟨A5, n5, c5, rfl, hl5, _, _, _⟩ := st.row 1 rfl
             rw [List.length_map, Nat.mul_one, List.length_append, List.length_replicate] at hl5
             replace st := st.tail
             refine XA rfl rfl rfl (XR_nil (X_seq ?_))
             have hst : goT ls bs n f' (a1 + k + rW 16) (rAdd L 16 i) = R ∨ n < L.length + i := by
              by_cases hb : n < L.length + i
              ·exact .inr hb
              ·rw [if_neg hb] at hg; exact .inl hg
             have hstl : (rAdd L 16 i).length = L.length + i := rAdd_len _ _ _
             refine X_reg (XV rfl rfl rfl ?_)
             refine XR_a (op_neq rfl rfl) rfl rfl ?_
             refine XV rfl rfl rfl (XV rfl rfl rfl ?_)
             refine XR_a (op_len rfl rfl rfl) rfl rfl ?_
             refine XV rfl rfl rfl ?_
             refine XR_a (op_gtr rfl rfl) rfl rfl ?_
             refine XR_a (op_pick_f rfl rfl) rfl rfl (XR_nil ?_)
             refine X_if rfl (fun h => ?_) (fun h => ?_)
             ·refine X_seq (X_reg (XA rfl rfl rfl (XA rfl rfl rfl (XA rfl rfl rfl (XR_nil ?_)))))
              refine X_ret (.cons (.tmp rfl) (.cons (.tmp rfl) (.cons (.tmp rfl) .nil))) ?_
              rw [if_pos (by omega)] at hg
              rw [← hg]
              exact ⟨_, 0, rfl, fun hh => absurd hh (by decide), (st.keep 0).nilrow 3 1⟩
             ·refine X_skip (X_blk ?_)
              have hb : ¬ n < L.length + i := by omega
              exact X_again (f', a1 + k + rW 16, rAdd L 16 i, _) (.cons rfl (.cons rfl (.cons rfl (.cons rfl (.cons rfl (.cons rfl (.nil _))))))) ⟨hst.resolve_right hb, by simp only [rAdd_len]; omega, by simp only [rAdd_len]; omega, by simp only; omega, st⟩ (by simp only [rAdd_len]; omega)
           ·refine X_skip (X_seq (X_reg (XV rfl rfl rfl (XV rfl rfl rfl ?_))))
            first | refine XR_a (op_addN rfl rfl (by simp only [inK]; omega)) rfl rfl ?_ | refine XR_a (op_addI rfl rfl (by simp only [inK]; omega)) rfl rfl ?_ | refine XR_a (op_add rfl rfl) rfl rfl ?_
            refine XA rfl rfl rfl (XR_nil (X_seq (X_reg (XV rfl rfl rfl (XV rfl rfl rfl ?_)))))
            refine XR_wa (opl_append st 0 rfl (Rd.nil _ _) (rfl) (by intro u hu; simp at hu) (by simp; omega) rfl rfl rfl rfl rfl rfl rfl) rfl rfl rfl fun v hp st => ?_
            simp only [List.set_cons_zero, List.set_cons_succ] at st
            rw [List.append_nil] at st
            refine XA rfl rfl rfl (XR_nil (X_seq (X_reg (XV rfl rfl rfl ?_))))
            refine XR_a (op_neq rfl rfl) rfl rfl ?_
            refine XV rfl rfl rfl (XR_no rfl rfl (XR_no rfl rfl (XR_no rfl rfl (XR_no rfl rfl (XR_a (op_pick_t rfl rfl) rfl rfl (XR_nil (X_then rfl (X_seq (X_reg ?_)))))))))
            refine XA rfl rfl rfl (XA rfl rfl rfl (XA rfl rfl rfl (XR_nil ?_)))
            refine X_ret (.cons (.tmp rfl) (.cons (.tmp rfl) (.cons (.tmp rfl) .nil))) ?_
            rw [if_pos (by omega)] at hg
            rw [← hg]
            exact ⟨_, 0, rfl, fun hh => absurd hh (by decide), (st.keep 0).nilrow 3 1⟩
         ·refine XA rfl rfl rfl (XR_nil (X_seq (X_seq (X_reg (XV rfl rfl rfl ?_)))))
          refine XR_a (op_len rfl rfl rfl) rfl rfl ?_
          refine XV rfl rfl rfl ?_
          refine XR_a (op_subN (m := m) (n := a1 + k) rfl rfl (by omega) (by simp only [inK]; omega)) rfl rfl ?_
          refine XV rfl rfl rfl ?_
          refine XR_a (op_lss rfl rfl) rfl rfl ?_
          refine XR_nil ?_
          refine X_if rfl (fun h => ?_) (fun h => ?_)
          ·refine X_seq (X_reg (XA rfl rfl rfl (XA rfl rfl rfl (XA rfl rfl rfl (XR_nil ?_)))))
           refine X_ret (.cons (.tmp rfl) (.cons (.tmp rfl) (.cons (.tmp rfl) .nil))) ?_
           rw [if_pos (by omega)] at hO
           rw [goT_step (by omega) hO, if_pos (by omega)] at hg
           rw [← hg]
           exact ⟨_, 0, rfl, fun hh => absurd hh (by decide), (st.keep 0).nilrow 3 1⟩
          ·refine X_skip (X_seq ?_)
           rw [if_neg (by omega)] at hO
           rw [goT_step (by omega) hO, if_neg (show ¬ (0 : Nat) ≠ 0 by omega)] at hg
           have hnum := rL_num hnw
           refine X_reg (XV rfl rfl rfl (XV rfl rfl rfl (XV rfl rfl rfl (XV rfl rfl rfl (XV rfl rfl rfl ?_)))))
           refine XR_wa (opl_call (number_ref (k := ((rW s : Nat) : Int)) (hr.ext st.low) hl (by omega) (by omega)) rfl (by kernel_rfl)) rfl rfl rfl ?_
           rintro _ _ ⟨rfl, rfl⟩
           rw [wd_nat (by omega)]
           refine XR_a (op_convI (k' := .i64) rfl rfl (by simp only [inK]; omega)) rfl rfl ?_
           refine XR_a (op_addN (m := rL s) (n := numB bs (a1 + k) (rW s)) rfl rfl (by simp only [inK]; omega)) rfl rfl ?_
           obtain ⟨y, hy⟩ : ∃ y, rL s + numB bs (a1 + k) (rW s) = y := ⟨_, rfl⟩
           rw [hy] at hg hnum ⊢
           refine XR_a (op_build (ps := [(0, nV s), (1, nV y)]) (cs := #[nV s, nV y]) rfl rfl) rfl rfl ?_
           refine XR_wa (opl_varA (us := [nV s, nV y]) rfl rfl rfl rfl (by kernel_rfl)) rfl rfl rfl ?_
           rintro _ hp ⟨A7, rfl, hx7, hrd7⟩
           replace st := st.ext hx7
           refine XR_wa (opl_call (join_ok hrd7 (by omega) h16 (by omega) hnum) rfl (by kernel_rfl)) rfl rfl rfl ?_
           rintro _ hp8 ⟨w8, rfl, st8⟩
           obtain ⟨A8, n8, c8, rfl, hl8, _, _, hrd8⟩ := st8.row 0 rfl
           rw [List.length_map, List.length_replicate, Nat.mul_one] at hl8
           replace st := st.ext st8.low
           have hrV : rV [] s = rV L s := by unfold rV; rw [if_neg h16, if_neg h16]
           refine XV rfl rfl rfl (XR_a (op_extract rfl rfl) rfl rfl (XR_a (op_extract rfl rfl) rfl rfl (XA rfl rfl rfl (XA rfl rfl rfl (XR_nil (X_seq (X_seq (X_reg (XV rfl rfl rfl ?_)))))))))
           refine XR_a (op_eql rfl rfl) rfl rfl ?_
           refine XR_as (.bool false) (congrArg Value.bool (decide_eq_false (by omega))) ?_
           refine XV rfl rfl rfl (XR_no rfl rfl (XR_no rfl rfl (XR_no rfl rfl (XR_a (op_pick_f rfl rfl) rfl rfl (XR_nil (X_else rfl (X_skip (X_seq (X_reg ?_)))))))))
           refine XV rfl rfl rfl (XV rfl rfl rfl ?_)
           first | refine XR_a (op_addN rfl rfl (by simp only [inK]; omega)) rfl rfl ?_ | refine XR_a (op_addI rfl rfl (by simp only [inK]; omega)) rfl rfl ?_ | refine XR_a (op_add rfl rfl) rfl rfl ?_
           refine XA rfl rfl rfl (XR_nil (X_seq (X_reg (XV rfl rfl rfl (XV rfl rfl rfl ?_)))))
           refine XR_wa (opl_append st 0 rfl (hrd8.ext (Ext.refl _)) (by rw [List.length_map, List.length_replicate]; omega) (one_nV _) (by simp; omega) rfl rfl rfl rfl rfl rfl rfl) rfl rfl rfl fun v hp st => ?_
           simp only [List.set_cons_zero, List.set_cons_succ] at st
           rw [← List.map_append, hrV] at st
           obtain ⟨A5, n5, c5, rfl, hl5, _, _, _⟩ := st.row 0 rfl
           rw [List.length_map, Nat.mul_one, List.length_append, List.length_replicate] at hl5
           refine XA rfl rfl rfl (XR_nil (X_seq ?_))
           rw [if_neg (fun hh => h16 hh.1)] at hg
           refine X_reg (XV rfl rfl rfl ?_)
           refine XR_a (op_neq rfl rfl) rfl rfl ?_
           refine XV rfl rfl rfl (XV rfl rfl rfl ?_)
           refine XR_a (op_len rfl rfl rfl) rfl rfl ?_
           refine XV rfl rfl rfl ?_
           refine XR_a (op_gtr rfl rfl) rfl rfl ?_
           refine XR_a (op_pick_f rfl rfl) rfl rfl (XR_nil ?_)
           refine X_if rfl (fun h => ?_) (fun h => ?_)
           ·refine X_seq (X_reg (XA rfl rfl rfl (XA rfl rfl rfl (XA rfl rfl rfl (XR_nil ?_)))))
            refine X_ret (.cons (.tmp rfl) (.cons (.tmp rfl) (.cons (.tmp rfl) .nil))) ?_
            rw [if_pos (by omega)] at hg
            rw [← hg]
            exact ⟨_, 0, rfl, fun hh => absurd hh (by decide), (st.keep 0).nilrow 3 1⟩
           ·refine X_skip (X_blk ?_)
            rw [if_neg (by omega)] at hg
            exact X_again (f', a1 + k + rW s, rAdd L s y, _) (.cons rfl (.cons rfl (.cons rfl (.cons rfl (.cons rfl (.cons rfl (.nil _))))))) ⟨hg, by simp only [rAdd_len]; omega, by simp only [rAdd_len]; omega, by simp only; omega, st⟩ (by simp only [rAdd_len]; omega)
       ·refine X_exit rfl (X_seq (X_reg (XV rfl rfl rfl (XV rfl rfl rfl (XA rfl rfl rfl (XA rfl rfl rfl (XA rfl rfl rfl (XR_nil ?_))))))))
        refine X_ret (.cons (.tmp rfl) (.cons (.tmp rfl) (.cons (.tmp rfl) .nil))) ?_
        obtain ⟨f', rfl⟩ : ∃ f', f = f' + 1 := ⟨f - 1, by omega⟩
        rw [goT, if_pos (by omega)] at hg
        rw [← hg]
        exact ⟨_, a1, rfl, fun _ => rfl, st.keep 1⟩
      ·refine XR_wa (opl_call (right08_ref hrdL (by rw [List.length_map, h19]) (by omega)) rfl (by kernel_rfl)) rfl rfl rfl ?_
       rintro _ hp5 ⟨rfl, rfl⟩
       rw [decide_eq_false hRC]
       first | refine XR_a (op_notd rfl) rfl rfl ?_ | refine XR_a (op_not rfl) rfl rfl ?_
       refine XR_nil (X_then rfl (X_seq (X_reg (XA rfl rfl rfl (XA rfl rfl rfl (XA rfl rfl rfl (XR_nil ?_)))))))
       refine X_ret (.cons (.tmp rfl) (.cons (.tmp rfl) (.cons (.tmp rfl) .nil))) ?_
       rw [bad 13 (by rw [hH, if_neg (by omega), if_neg (by omega), if_neg (by omega), hokr, decide_eq_false hRC]; rfl) (by omega)]
       exact ⟨_, 0, rfl, fun hh => absurd hh (by decide), (st.tail.nilrow 3 1)⟩
end Go.Bn
end
