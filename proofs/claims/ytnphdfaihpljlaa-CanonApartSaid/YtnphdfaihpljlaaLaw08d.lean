/- The law CanonApart. -/
import Derived.Test.YtnphdfaihpljlaaLaw08c
set_option linter.unusedVariables false
set_option linter.unusedSimpArgs false
set_option maxHeartbeats 4000000
set_option maxRecDepth 20000
namespace Go.Bn
open Go Proofs

theorem canonApart_ret {n c : Nat} {A : Option Addr} {li : List Int} {b0 b1 : UInt8} {h0 : Heap} (hr : Rd h0 A (li.map iV)) (hl : li.length = n) (hn : n ≤ 17592186044416) :
    Ret Try.prog 5 [.slice A n c, .agg #[byteV b0, byteV b1]] h0 fun v h' => v = .bool true ∧ Ext h0 h' := by
  refine ret_of_X Try.func5 rfl rfl fun w0 hw0 => ?_
  simp only [argE, Nat.zero_add, Nat.reduceAdd]
  refine X_seq ?_
  refine X_reg ?_
  refine XR_wa (opl_bx rfl rfl) rfl rfl rfl ?_
  rintro _ hp ⟨pb, rfl, hnew⟩
  have st := (St.start h0).new hnew
  refine XR_a (op_assign rfl) rfl rfl ?_
  by_cases hR : rightC li
  · refine XR_nil ?_
    refine X_seq ?_
    refine X_reg ?_
    refine XR_a (op_move rfl) rfl rfl ?_
    refine XR_wa (opl_call (cvalues_spec (hr.ext st.low) hl hn) rfl (by kernel_rfl)) rfl rfl rfl ?_
    rintro _ hp1 ⟨w, rfl, hx1, hy1, _⟩
    replace st := st.join (hy1 hR)
    simp only [List.cons_append, List.nil_append] at st
    rw [errC_pos hR]
    have hok := hR.ok
    have hr2 : Rd h0 A ((li.map Int.toNat).map nV) := by rw [← bounded_nat hR.2.1]; exact hr
    have hl2 : (li.map Int.toNat).length = n := by rw [List.length_map]; exact hl
    have hle : li.map Int.toNat = li.map Int.toNat := rfl
    obtain ⟨ls, hl3⟩ : ∃ ls, li.map Int.toNat = ls := ⟨_, rfl⟩
    rw [hl3] at hok hr2 hl2 st
    have h320 := hok.2.1
    have h1n := hok.1
    obtain ⟨gA, oA, rfl, hcA⟩ := hr2.at_ (by rw [List.length_map]; omega)
    obtain ⟨A3, n3, c3, rfl, hlen3, _, _, hrd3⟩ := st.row 0 rfl
    rw [List.length_map, vals_length] at hlen3
    obtain ⟨gV, oV, rfl, hcV⟩ := hrd3.at_ (by rw [List.length_map, vals_length]; omega)
    refine XR_a (op_move rfl) rfl rfl ?_
    refine XR_a (op_extract rfl rfl) rfl rfl ?_
    refine XR_a (op_extract rfl rfl) rfl rfl ?_
    refine XR_a (op_assign rfl) rfl rfl ?_
    refine XR_a (op_assign rfl) rfl rfl ?_
    refine XR_nil ?_
    refine X_seq ?_
    refine X_seq ?_
    refine X_reg ?_
    refine XR_a (op_move rfl) rfl rfl ?_
    refine XR_a (op_neq rfl rfl) rfl rfl ?_
    refine XR_a (op_move rfl) rfl rfl ?_
    refine XR_a (op_move rfl) rfl rfl ?_
    refine XR_a (op_len rfl rfl rfl) rfl rfl ?_
    refine XR_a (op_gtr rfl rfl) rfl rfl ?_
    refine XR_as (.bool false) (congrArg Value.bool (decide_eq_false (by omega))) ?_
    refine XR_a (op_pick_f rfl rfl) rfl rfl ?_
    refine XR_a (op_move rfl) rfl rfl ?_
    refine XR_a (op_move rfl) rfl rfl ?_
    refine XR_a (op_len rfl rfl rfl) rfl rfl ?_
    refine XR_a (op_move rfl) rfl rfl ?_
    refine XR_a (op_len rfl rfl rfl) rfl rfl ?_
    refine XR_a (op_neq rfl rfl) rfl rfl ?_
    refine XR_as (.bool false) (congrArg Value.bool (decide_eq_false (by omega))) ?_
    refine XR_a (op_pick_f rfl rfl) rfl rfl ?_
    refine XR_nil ?_
    refine X_else rfl ?_
    refine X_skip ?_
    refine X_seq ?_
    refine X_seq ?_
    refine X_reg ?_
    refine XR_a (op_assign rfl) rfl rfl ?_
    refine XR_nil ?_
    refine X_block ?_
    refine X_loop (fun i => n - i) (fun i => [(0, .slice (some ⟨gA, oA, none⟩) n c), (3, .pointer (some ⟨pb, 0, none⟩)), (5, .slice (some ⟨gV, oV, none⟩) n3 c3), (7, .int .i64 (i : Nat))])
      (fun (i : Nat) hp => hp = hp1 ∧ i ≤ n)
      0 (.cons rfl (.cons rfl (.cons rfl (.cons rfl (.nil _))))) ⟨rfl, by omega⟩ ?_
    rintro i hp ⟨rfl, hi⟩
    refine X_seq ?_
    refine X_seq ?_
    refine X_reg ?_
    refine XR_a (op_move rfl) rfl rfl ?_
    refine XR_a (op_move rfl) rfl rfl ?_
    refine XR_a (op_len rfl rfl rfl) rfl rfl ?_
    refine XR_a (op_lss rfl rfl) rfl rfl ?_
    refine XR_nil ?_
    refine X_if rfl (fun h => ?_) (fun h => ?_)
    · have hil : i < ls.length := by omega
      have hci := cellH_ext (a := ⟨gA, oA + i, none⟩) st.low (hcA i (nV ls[i]) (by simp [hil]))
      refine X_skip ?_
      refine X_seq ?_
      refine X_block ?_
      refine X_seq ?_
      refine X_reg ?_
      refine XR_a (op_assign rfl) rfl rfl ?_
      refine XR_nil ?_
      refine X_block ?_
      refine X_loop (fun k => i - k) (fun k => [(0, .slice (some ⟨gA, oA, none⟩) n c), (3, .pointer (some ⟨pb, 0, none⟩)), (5, .slice (some ⟨gV, oV, none⟩) n3 c3), (7, .int .i64 (i : Nat)), (8, .int .i64 (k : Nat))])
        (fun (k : Nat) hp' => hp' = hp ∧ k ≤ i)
        0 (.cons rfl (.cons rfl (.cons rfl (.cons rfl (.cons rfl (.nil _)))))) ⟨rfl, by omega⟩ ?_
      rintro k hp2 ⟨rfl, hk⟩
      refine X_seq ?_
      refine X_seq ?_
      refine X_reg ?_
      refine XR_a (op_move rfl) rfl rfl ?_
      refine XR_a (op_move rfl) rfl rfl ?_
      refine XR_a (op_lss rfl rfl) rfl rfl ?_
      refine XR_nil ?_
      refine X_if rfl (fun h => ?_) (fun h => ?_)
      · have hkl : k < ls.length := by omega
        have hck := cellH_ext (a := ⟨gA, oA + k, none⟩) st.low (hcA k (nV ls[k]) (by simp [hkl]))
        have hvi : (vals ls)[i]? = some (val ls i) := by simp [vals, hil]
        have hvk : (vals ls)[k]? = some (val ls k) := by simp [vals, hkl]
        have h15i := hok.2.2.1 ls[i] (List.getElem_mem hil)
        have h15k := hok.2.2.1 ls[k] (List.getElem_mem hkl)
        have hap := fun h1 h2 => val_apart hok hil hkl (by omega) h1 h2
        have hap2 := fun h1 h2 => val_apart hok hkl hil (by omega) h1 h2
        have hbi := fun h => val_lt hok hil h
        have hbk := fun h => val_lt hok hkl h
        have hfi := fst_bd hok h15i
        have hfk := fst_bd hok h15k
        obtain ⟨x, hx⟩ : ∃ x, val ls i = x := ⟨_, rfl⟩
        obtain ⟨y, hy⟩ : ∃ y, val ls k = y := ⟨_, rfl⟩
        rw [hx] at hvi hap hap2 hbi
        rw [hy] at hvk hap hap2 hbk
        obtain ⟨p, hp_⟩ : ∃ p, ls[i] = p := ⟨_, rfl⟩
        obtain ⟨q, hq_⟩ : ∃ q, ls[k] = q := ⟨_, rfl⟩
        rw [hp_] at hci h15i hap hap2 hbi hfi
        rw [hq_] at hck h15k hap hap2 hbk hfk
        refine X_skip ?_
        refine X_seq ?_
        refine X_block ?_
        refine X_seq ?_
        refine X_seq ?_
        refine X_reg ?_
        refine XR_a (op_move rfl) rfl rfl ?_
        refine XR_a (op_move rfl) rfl rfl ?_
        first | refine XR_a (op_index1 rfl rfl rfl (by omega)) rfl rfl ?_ | refine XR_a (op_index rfl rfl rfl (by omega)) rfl rfl ?_
        refine XR_a (op_ld (hci) rfl rfl rfl) rfl rfl ?_
        refine XR_a (op_eql rfl rfl) rfl rfl ?_
        refine XR_a (op_move rfl) rfl rfl ?_
        refine XR_if 65 rfl (fun h => ?_) (fun h => ?_)
        · refine XR_no rfl rfl ?_
          refine XR_no rfl rfl ?_
          refine XR_no rfl rfl ?_
          refine XR_no rfl rfl ?_
          refine XR_no rfl rfl ?_
          refine XR_a (op_pick_t rfl rfl) rfl rfl ?_
          refine XR_nil ?_
          refine X_then rfl ?_
          refine X_exit rfl ?_
          refine X_reg ?_
          refine XR_a (op_move rfl) rfl rfl ?_
          first | refine XR_a (op_addN (n := 1) rfl rfl (by simp only [inK]; omega)) rfl rfl ?_ | refine XR_a (op_addI rfl rfl (by simp only [inK]; omega)) rfl rfl ?_ | refine XR_a (op_add rfl rfl) rfl rfl ?_
          refine XR_a (op_assign rfl) rfl rfl ?_
          refine XR_nil ?_
          exact X_again (k + 1) (.cons rfl (.cons rfl (.cons rfl (.cons rfl (.cons rfl (.nil _)))))) ⟨rfl, by omega⟩ (by omega)
        · refine XR_a (op_move rfl) rfl rfl ?_
          refine XR_a (op_move rfl) rfl rfl ?_
          first | refine XR_a (op_index1 rfl rfl rfl (by omega)) rfl rfl ?_ | refine XR_a (op_index rfl rfl rfl (by omega)) rfl rfl ?_
          refine XR_a (op_ld (hck) rfl rfl rfl) rfl rfl ?_
          refine XR_a (op_eql rfl rfl) rfl rfl ?_
          refine XR_a (op_pick_f rfl rfl) rfl rfl ?_
          refine XR_nil ?_
          refine X_if rfl (fun h => ?_) (fun h => ?_)
          · refine X_exit rfl ?_
            refine X_reg ?_
            refine XR_a (op_move rfl) rfl rfl ?_
            first | refine XR_a (op_addN (n := 1) rfl rfl (by simp only [inK]; omega)) rfl rfl ?_ | refine XR_a (op_addI rfl rfl (by simp only [inK]; omega)) rfl rfl ?_ | refine XR_a (op_add rfl rfl) rfl rfl ?_
            refine XR_a (op_assign rfl) rfl rfl ?_
            refine XR_nil ?_
            exact X_again (k + 1) (.cons rfl (.cons rfl (.cons rfl (.cons rfl (.cons rfl (.nil _)))))) ⟨rfl, by omega⟩ (by omega)
          · refine X_skip ?_
            refine X_seq ?_
            refine X_draw byKind (by kernel_rfl) (by kernel_rfl) ?_
            refine XR_a (op_move rfl) rfl rfl ?_
            refine XR_a (op_move rfl) rfl rfl ?_
            first | refine XR_a (op_index1 rfl rfl rfl (by omega)) rfl rfl ?_ | refine XR_a (op_index rfl rfl rfl (by omega)) rfl rfl ?_
            refine XR_a (op_ld (hcV i _ (map_get_nV hvi)) rfl rfl rfl) rfl rfl ?_
            refine XR_a (op_move rfl) rfl rfl ?_
            refine XR_a (op_move rfl) rfl rfl ?_
            first | refine XR_a (op_index1 rfl rfl rfl (by omega)) rfl rfl ?_ | refine XR_a (op_index rfl rfl rfl (by omega)) rfl rfl ?_
            refine XR_a (op_ld (hcV k _ (map_get_nV hvk)) rfl rfl rfl) rfl rfl ?_
            refine XR_a (op_assign rfl) rfl rfl ?_
            refine XR_a (op_assign rfl) rfl rfl ?_
            refine XR_nil ?_
            refine X_seq ?_
            refine X_seq ?_
            refine X_reg ?_
            refine XR_a (op_move rfl) rfl rfl ?_
            refine XR_a (op_move rfl) rfl rfl ?_
            first | refine XR_a (op_index1 rfl rfl rfl (by omega)) rfl rfl ?_ | refine XR_a (op_index rfl rfl rfl (by omega)) rfl rfl ?_
            refine XR_a (op_ld (hci) rfl rfl rfl) rfl rfl ?_
            refine XR_a (op_assign rfl) rfl rfl ?_
            refine XR_nil ?_
            refine X_block ?_
            have hp0 : p ≠ 0 := by omega
            have hq0 : q ≠ 0 := by omega
            have hxb : x ≤ 32768 := by have := hbi hp0; omega
            have hyb : y ≤ 32768 := by have := hbk hq0; omega
            refine X_loop (fun m => m) (fun m => [(0, .slice (some ⟨gA, oA, none⟩) n c), (3, .pointer (some ⟨pb, 0, none⟩)), (5, .slice (some ⟨gV, oV, none⟩) n3 c3), (7, .int .i64 (i : Nat)), (8, .int .i64 (k : Nat)), (9, .int .i64 (x / 2 ^ (p - m) : Nat)), (10, nV y), (11, .int .i64 (m : Nat))])
              (fun (m : Nat) hp' => hp' = hp2 ∧ m ≤ p ∧ (m = p ∨ q ≤ m))
              p (.cons rfl (.cons rfl (.cons rfl (.cons rfl (.cons rfl (.cons (by rw [Nat.sub_self, Nat.pow_zero, Nat.div_one]; rfl) (.cons rfl (.cons rfl (.nil _))))))))) ⟨rfl, by omega, by omega⟩ ?_
            rintro m hp3 ⟨rfl, hm1, hm2⟩
            have hxd : x / 2 ^ (p - m) ≤ 32768 := Nat.le_trans (Nat.div_le_self _ _) hxb
            refine X_seq ?_
            refine X_seq ?_
            refine X_reg ?_
            refine XR_a (op_move rfl) rfl rfl ?_
            refine XR_a (op_move rfl) rfl rfl ?_
            refine XR_a (op_move rfl) rfl rfl ?_
            first | refine XR_a (op_index1 rfl rfl rfl (by omega)) rfl rfl ?_ | refine XR_a (op_index rfl rfl rfl (by omega)) rfl rfl ?_
            refine XR_a (op_ld (hck) rfl rfl rfl) rfl rfl ?_
            refine XR_a (op_gtr rfl rfl) rfl rfl ?_
            refine XR_nil ?_
            refine X_if rfl (fun h => ?_) (fun h => ?_)
            · refine X_skip ?_
              refine X_seq ?_
              refine X_block ?_
              refine X_reg ?_
              refine XR_a (op_move rfl) rfl rfl ?_
              refine XR_a (op_quoN (m := x / 2 ^ (p - m)) (n := 2) rfl rfl (by omega) (by revert hxd; generalize x / 2 ^ (p - m) = u; intro hxd; simp only [inK]; omega)) rfl rfl ?_
              refine XR_a (op_assign rfl) rfl rfl ?_
              refine XR_nil ?_
              refine X_blk ?_
              refine X_reg ?_
              refine XR_a (op_move rfl) rfl rfl ?_
              refine XR_a (op_subN (m := m) (n := 1) rfl rfl (by omega) (by simp only [inK]; omega)) rfl rfl ?_
              refine XR_a (op_assign rfl) rfl rfl ?_
              refine XR_nil ?_
              exact X_again (m - 1) (.cons rfl (.cons rfl (.cons rfl (.cons rfl (.cons rfl (.cons (by rw [show p - (m - 1) = (p - m) + 1 by omega, Nat.pow_succ, ← Nat.div_div_eq_div_mul]; rfl) (.cons rfl (.cons rfl (.nil _))))))))) ⟨rfl, by omega, by omega⟩ (by omega)
            · have hpm : p - m = p - q := by omega
              refine X_exit rfl ?_
              refine X_seq ?_
              refine X_seq ?_
              refine X_reg ?_
              refine XR_a (op_move rfl) rfl rfl ?_
              refine XR_a (op_move rfl) rfl rfl ?_
              first | refine XR_a (op_index1 rfl rfl rfl (by omega)) rfl rfl ?_ | refine XR_a (op_index rfl rfl rfl (by omega)) rfl rfl ?_
              refine XR_a (op_ld (hck) rfl rfl rfl) rfl rfl ?_
              refine XR_a (op_assign rfl) rfl rfl ?_
              refine XR_nil ?_
              refine X_block ?_
              refine X_loop (fun m => m) (fun m => [(0, .slice (some ⟨gA, oA, none⟩) n c), (3, .pointer (some ⟨pb, 0, none⟩)), (5, .slice (some ⟨gV, oV, none⟩) n3 c3), (7, .int .i64 (i : Nat)), (8, .int .i64 (k : Nat)), (9, .int .i64 (x / 2 ^ (p - q) : Nat)), (10, .int .i64 (y / 2 ^ (q - m) : Nat)), (12, .int .i64 (m : Nat))])
                (fun (m : Nat) hp' => hp' = hp3 ∧ m ≤ q ∧ (m = q ∨ p ≤ m))
                q (.cons rfl (.cons rfl (.cons rfl (.cons rfl (.cons rfl (.cons (by rw [← hpm]; rfl) (.cons (by rw [Nat.sub_self, Nat.pow_zero, Nat.div_one]; rfl) (.cons rfl (.nil _))))))))) ⟨rfl, by omega, by omega⟩ ?_
              clear hm1 hm2 hpm h hxd
              rintro m hp4 ⟨rfl, hm1, hm2⟩
              have hyd : y / 2 ^ (q - m) ≤ 32768 := Nat.le_trans (Nat.div_le_self _ _) hyb
              refine X_seq ?_
              refine X_seq ?_
              refine X_reg ?_
              refine XR_a (op_move rfl) rfl rfl ?_
              refine XR_a (op_move rfl) rfl rfl ?_
              refine XR_a (op_move rfl) rfl rfl ?_
              first | refine XR_a (op_index1 rfl rfl rfl (by omega)) rfl rfl ?_ | refine XR_a (op_index rfl rfl rfl (by omega)) rfl rfl ?_
              refine XR_a (op_ld (hci) rfl rfl rfl) rfl rfl ?_
              refine XR_a (op_gtr rfl rfl) rfl rfl ?_
              refine XR_nil ?_
              refine X_if rfl (fun h => ?_) (fun h => ?_)
              · refine X_skip ?_
                refine X_seq ?_
                refine X_block ?_
                refine X_reg ?_
                refine XR_a (op_move rfl) rfl rfl ?_
                refine XR_a (op_quoN (m := y / 2 ^ (q - m)) (n := 2) rfl rfl (by omega) (by revert hyd; generalize y / 2 ^ (q - m) = u; intro hyd; simp only [inK]; omega)) rfl rfl ?_
                refine XR_a (op_assign rfl) rfl rfl ?_
                refine XR_nil ?_
                refine X_blk ?_
                refine X_reg ?_
                refine XR_a (op_move rfl) rfl rfl ?_
                refine XR_a (op_subN (m := m) (n := 1) rfl rfl (by omega) (by simp only [inK]; omega)) rfl rfl ?_
                refine XR_a (op_assign rfl) rfl rfl ?_
                refine XR_nil ?_
                exact X_again (m - 1) (.cons rfl (.cons rfl (.cons rfl (.cons rfl (.cons rfl (.cons rfl (.cons (by rw [show q - (m - 1) = (q - m) + 1 by omega, Nat.pow_succ, ← Nat.div_div_eq_div_mul]; rfl) (.cons rfl (.nil _))))))))) ⟨rfl, by omega, by omega⟩ (by omega)
              · have hqm : q - m = q - p := by omega
                have hne : x / 2 ^ (p - q) ≠ y / 2 ^ (q - m) := by
                  rw [hqm]
                  rcases Nat.le_total p q with h1 | h1
                  · rw [show p - q = 0 by omega, Nat.pow_zero, Nat.div_one]; exact hap hp0 hq0 h1
                  · rw [show q - p = 0 by omega, Nat.pow_zero, Nat.div_one]; exact (hap2 hq0 hp0 h1).symm
                refine X_exit rfl ?_
                refine X_seq ?_
                refine X_reg ?_
                refine XR_a (op_move rfl) rfl rfl ?_
                refine XR_a (op_move rfl) rfl rfl ?_
                refine XR_a (op_eql rfl rfl) rfl rfl ?_
                refine XR_as (.bool false) (congrArg Value.bool (decide_eq_false (fun hh => hne (Int.ofNat.inj hh)))) ?_
                refine XR_nil ?_
                refine X_else rfl ?_
                refine X_skip ?_
                refine X_blk ?_
                refine X_reg ?_
                refine XR_a (op_move rfl) rfl rfl ?_
                first | refine XR_a (op_addN (n := 1) rfl rfl (by simp only [inK]; omega)) rfl rfl ?_ | refine XR_a (op_addI rfl rfl (by simp only [inK]; omega)) rfl rfl ?_ | refine XR_a (op_add rfl rfl) rfl rfl ?_
                refine XR_a (op_assign rfl) rfl rfl ?_
                refine XR_nil ?_
                exact X_again (k + 1) (.cons rfl (.cons rfl (.cons rfl (.cons rfl (.cons rfl (.nil _)))))) ⟨rfl, by omega⟩ (by omega)
      · refine X_exit rfl ?_
        refine X_blk ?_
        refine X_reg ?_
        refine XR_a (op_move rfl) rfl rfl ?_
        first | refine XR_a (op_addN (n := 1) rfl rfl (by simp only [inK]; omega)) rfl rfl ?_ | refine XR_a (op_addI rfl rfl (by simp only [inK]; omega)) rfl rfl ?_ | refine XR_a (op_add rfl rfl) rfl rfl ?_
        refine XR_a (op_assign rfl) rfl rfl ?_
        refine XR_nil ?_
        exact X_again (i + 1) (.cons rfl (.cons rfl (.cons rfl (.cons rfl (.nil _))))) ⟨rfl, by omega⟩ (by omega)
    · have hs2 := st
      refine X_exit rfl ?_
      refine X_seq ?_
      refine X_reg ?_
      refine XR_a (op_move rfl) rfl rfl ?_
      refine XR_wa (opl_call (cnew_spec (hr.ext st.low) hl hn) rfl (by kernel_rfl)) rfl rfl rfl ?_
      rintro _ hp2 ⟨w2, rfl, hx2, hy2, _⟩
      obtain ⟨p, rfl, sc⟩ := hy2 hR
      rw [errC_pos hR]
      rw [hl3] at sc
      replace st := st.join sc
      simp only [List.cons_append, List.nil_append] at st
      refine XR_a (op_move rfl) rfl rfl ?_
      refine XR_a (op_extract rfl rfl) rfl rfl ?_
      refine XR_a (op_extract rfl rfl) rfl rfl ?_
      refine XR_a (op_assign rfl) rfl rfl ?_
      refine XR_a (op_assign rfl) rfl rfl ?_
      refine XR_nil ?_
      refine X_seq ?_
      refine X_reg ?_
      refine XR_a (op_move rfl) rfl rfl ?_
      refine XR_a (op_slice_arr rfl rfl rfl) rfl rfl ?_
      refine XR_wa (opl_call (rnew_spec) rfl (by kernel_rfl)) rfl rfl rfl ?_
      rintro _ hp3 ⟨r, rfl, sd⟩
      replace st := st.join sd
      simp only [List.cons_append, List.nil_append] at st
      have hrb : Rd hp3 (some ⟨pb, 0, none⟩) (([b0, b1] : List UInt8).map byteV) := .inr ⟨pb, 0, rfl, fun i u hu => by rw [Nat.zero_add]; exact st.cell 3 rfl hu⟩
      refine XR_wa (opl_call (ctake_spec st.here hok hrb rfl (by omega) (by omega)) rfl (by kernel_rfl)) rfl rfl rfl ?_
      rintro _ hp4 ⟨rfl, se⟩
      replace st := st.trans se
      refine XR_a (op_move rfl) rfl rfl ?_
      refine XR_a (op_extract rfl rfl) rfl rfl ?_
      refine XR_a (op_extract rfl rfl) rfl rfl ?_
      refine XR_a (op_assign rfl) rfl rfl ?_
      refine XR_a (op_assign rfl) rfl rfl ?_
      refine XR_nil ?_
      refine X_seq ?_
      refine X_reg ?_
      refine XR_a (op_move rfl) rfl rfl ?_
      refine XR_a (op_eql rfl rfl) rfl rfl ?_
      refine XR_a (op_move rfl) rfl rfl ?_
      refine XR_if 125 rfl (fun h => ?_) (fun h => ?_)
      · refine XR_no rfl rfl ?_
        refine XR_no rfl rfl ?_
        refine XR_no rfl rfl ?_
        refine XR_a (op_pick_t rfl rfl) rfl rfl ?_
        refine XR_a (op_move rfl) rfl rfl ?_
        refine XR_wa (opl_call (lives08 _) rfl (by kernel_rfl)) rfl rfl rfl ?_
        rintro _ hp ⟨rfl, hx⟩
        refine XR_a (op_pick_t rfl rfl) rfl rfl ?_
        refine XR_a (op_assign rfl) rfl rfl ?_
        refine XR_nil ?_
        refine X_ret (.cons (.tmp rfl) .nil) ?_
        exact ⟨rfl, Ext.trans st.low hx⟩
      · refine XR_a (op_move rfl) rfl rfl ?_
        refine XR_wa (opl_call (sum_ref (hr2.ext st.low) hl2 (by omega) hok.2.2.1) rfl (by kernel_rfl)) rfl rfl rfl ?_
        rintro _ _ ⟨rfl, rfl⟩
        refine XR_a (op_neq rfl rfl) rfl rfl ?_
        refine XR_as (.bool true) (congrArg Value.bool (decide_eq_true (fun hh => h (by
          have := takeC_full hok (by omega) ((bitsB [b0, b1]).drop 0) (by simp [bitsB_length])
          rw [this]; rfl)))) ?_
        refine XR_a (op_pick_f rfl rfl) rfl rfl ?_
        refine XR_a (op_move rfl) rfl rfl ?_
        refine XR_wa (opl_call (lives08 _) rfl (by kernel_rfl)) rfl rfl rfl ?_
        rintro _ hp ⟨rfl, hx⟩
        refine XR_a (op_pick_t rfl rfl) rfl rfl ?_
        refine XR_a (op_assign rfl) rfl rfl ?_
        refine XR_nil ?_
        refine X_ret (.cons (.tmp rfl) .nil) ?_
        exact ⟨rfl, Ext.trans st.low hx⟩
  · refine XR_nil ?_
    refine X_seq ?_
    refine X_reg ?_
    refine XR_a (op_move rfl) rfl rfl ?_
    refine XR_wa (opl_call (cvalues_spec (hr.ext st.low) hl hn) rfl (by kernel_rfl)) rfl rfl rfl ?_
    rintro _ hp1 ⟨w, rfl, hx1, _, hz1⟩
    obtain rfl := hz1 hR
    rw [errC_neg hR]
    refine XR_a (op_move rfl) rfl rfl ?_
    refine XR_a (op_extract rfl rfl) rfl rfl ?_
    refine XR_a (op_extract rfl rfl) rfl rfl ?_
    refine XR_a (op_assign rfl) rfl rfl ?_
    refine XR_a (op_assign rfl) rfl rfl ?_
    refine XR_nil ?_
    refine X_seq ?_
    refine X_seq ?_
    refine X_reg ?_
    refine XR_a (op_move rfl) rfl rfl ?_
    refine XR_a (op_neq rfl rfl) rfl rfl ?_
    refine XR_a (op_move rfl) rfl rfl ?_
    refine XR_no rfl rfl ?_
    refine XR_no rfl rfl ?_
    refine XR_no rfl rfl ?_
    refine XR_a (op_pick_t rfl rfl) rfl rfl ?_
    refine XR_a (op_move rfl) rfl rfl ?_
    refine XR_no rfl rfl ?_
    refine XR_no rfl rfl ?_
    refine XR_no rfl rfl ?_
    refine XR_no rfl rfl ?_
    refine XR_no rfl rfl ?_
    refine XR_a (op_pick_t rfl rfl) rfl rfl ?_
    refine XR_nil ?_
    refine X_then rfl ?_
    refine X_seq ?_
    refine X_reg ?_
    refine XR_a (op_move rfl) rfl rfl ?_
    refine XR_a (op_neq rfl rfl) rfl rfl ?_
    refine XR_a (op_move rfl) rfl rfl ?_
    refine XR_wa (opl_call (lives08 _) rfl (by kernel_rfl)) rfl rfl rfl ?_
    rintro _ hp ⟨rfl, hx⟩
    refine XR_a (op_pick_t rfl rfl) rfl rfl ?_
    refine XR_a (op_move rfl) rfl rfl ?_
    refine XR_no rfl rfl ?_
    refine XR_no rfl rfl ?_
    refine XR_no rfl rfl ?_
    refine XR_no rfl rfl ?_
    refine XR_no rfl rfl ?_
    refine XR_no rfl rfl ?_
    refine XR_a (op_pick_t rfl rfl) rfl rfl ?_
    refine XR_a (op_assign rfl) rfl rfl ?_
    refine XR_nil ?_
    refine X_ret (.cons (.tmp rfl) .nil) ?_
    exact ⟨rfl, (Ext.trans st.low hx1).trans hx⟩
end Go.Bn
