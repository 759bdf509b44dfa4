/- The contracts of canon's functions. -/
import Derived.Test.YtdiglnhhmbhhjaaCanon2
import Derived.Test.YtdiglnhhmbhhjaaPCanon2
import Derived.Test.YtdiglnhhmbhhjaaBitsR
set_option linter.unusedVariables false
set_option linter.unusedSimpArgs false
set_option maxHeartbeats 4000000
set_option maxRecDepth 20000
namespace Go.Bn
open Go Proofs

/-- A symbol's length, of any number. -/
def lenAt (ls : List Nat) (s : Int) : Nat := if s < 0 then 0 else ls.getD s.toNat 0
theorem lenAt_nat {ls : List Nat} {t : Nat} (h : t < ls.length) : lenAt ls (t : Int) = ls[t] := by
  unfold lenAt
  rw [if_neg (by omega), Int.toNat_natCast, getD_get h]
theorem lenAt_pos {ls : List Nat} {s : Int} (h : lenAt ls s ≠ 0) : ∃ t : Nat, s = t ∧ ∃ ht : t < ls.length, lenAt ls s = ls[t] := by
  unfold lenAt at h
  by_cases h1 : s < 0
  · rw [if_pos h1] at h; exact absurd rfl h
  · rw [if_neg h1] at h
    have h2 : s.toNat < ls.length := by
      rcases Nat.lt_or_ge s.toNat ls.length with h3 | h3
      · exact h3
      · rw [List.getD, List.getElem?_eq_none h3] at h; exact absurd rfl h
    exact ⟨s.toNat, by omega, h2, by unfold lenAt; rw [if_neg h1, getD_get h2]⟩
theorem lens_le {ls : List Nat} (hok : lensOK ls) (s : Int) : lenAt ls s ≤ 15 := by
  by_cases h : lenAt ls s = 0
  · omega
  · obtain ⟨t, _, ht, e⟩ := lenAt_pos h
    rw [e]; exact hok.2.2.1 _ (List.getElem_mem ht)

theorem clen_spec {B p : Nat} {s : Int} {ls : List Nat} {F : List Res} {hb h0 : Heap} (st : St B hb h0 (codeR p ls :: F)) (hn : ls.length ≤ 320) :
    Ret Try.prog 125 [.pointer (some ⟨p, 0, none⟩), .int .i64 s] h0 fun v h' => v = .int .i64 (lenAt ls s : Nat) ∧ h0 = h' := by
  obtain ⟨va, vb, vo, so⟩ := st.code
  obtain ⟨A, n, c, rfl, hlen, _, _, hrd⟩ := so.row 1 rfl
  rw [List.length_map] at hlen
  refine ret_of_X Try.func125 rfl rfl fun w0 hw0 => ?_
  simp only [argE, Nat.zero_add, Nat.reduceAdd]
  refine X_seq ?_
  refine X_reg ?_
  refine XR_a (op_assign rfl) rfl rfl ?_
  refine XR_nil ?_
  refine X_seq ?_
  refine X_seq ?_
  refine X_reg ?_
  refine XR_a (op_move rfl) rfl rfl ?_
  refine XR_a (op_ptr_nil rfl rfl rfl) rfl rfl ?_
  refine XR_a (op_move rfl) rfl rfl ?_
  refine XR_a (op_move rfl) rfl rfl ?_
  refine XR_a (op_lss rfl rfl) rfl rfl ?_
  refine XR_a (op_pick_f rfl rfl) rfl rfl ?_
  refine XR_a (op_move rfl) rfl rfl ?_
  refine XR_if 11 rfl (fun h => ?_) (fun h => ?_)
  · refine XR_no rfl rfl ?_
    refine XR_no rfl rfl ?_
    refine XR_no rfl rfl ?_
    refine XR_no rfl rfl ?_
    refine XR_no rfl rfl ?_
    refine XR_no rfl rfl ?_
    refine XR_no rfl rfl ?_
    refine XR_a (op_pick_t rfl rfl) rfl rfl ?_
    refine XR_nil ?_
    refine X_then rfl ?_
    refine X_seq ?_
    refine X_reg ?_
    refine XR_a (op_assign rfl) rfl rfl ?_
    refine XR_nil ?_
    refine X_ret (.cons (.tmp rfl) .nil) ?_
    unfold lenAt
    exact ⟨by rw [if_pos h]; rfl, rfl⟩
  · refine XR_a (op_move rfl) rfl rfl ?_
    refine XR_a (op_move rfl) rfl rfl ?_
    refine XR_a (op_nilCheck rfl) rfl rfl ?_
    first | refine XR_a (op_field0 rfl rfl) rfl rfl ?_ | refine XR_a (op_fieldn rfl rfl) rfl rfl ?_
    refine XR_a (op_ld (so.cell 0 (i := 0) rfl rfl) rfl rfl rfl) rfl rfl ?_
    refine XR_a (op_len rfl rfl rfl) rfl rfl ?_
    refine XR_a (op_geq rfl rfl) rfl rfl ?_
    refine XR_a (op_pick_f rfl rfl) rfl rfl ?_
    refine XR_nil ?_
    refine X_if rfl (fun h => ?_) (fun h => ?_)
    · refine X_seq ?_
      refine X_reg ?_
      refine XR_a (op_assign rfl) rfl rfl ?_
      refine XR_nil ?_
      refine X_ret (.cons (.tmp rfl) .nil) ?_
      unfold lenAt
      rename_i hs h
      exact ⟨by rw [if_neg (by omega), List.getD, List.getElem?_eq_none (by omega)]; rfl, rfl⟩
    · obtain ⟨t, rfl⟩ : ∃ t : Nat, s = t := ⟨s.toNat, by omega⟩
      obtain ⟨gA, oA, rfl, hcA⟩ := hrd.at_ (by rw [List.length_map]; omega)
      have ht : t < ls.length := by omega
      refine X_skip ?_
      refine X_seq ?_
      refine X_reg ?_
      refine XR_a (op_move rfl) rfl rfl ?_
      refine XR_a (op_nilCheck rfl) rfl rfl ?_
      first | refine XR_a (op_field0 rfl rfl) rfl rfl ?_ | refine XR_a (op_fieldn rfl rfl) rfl rfl ?_
      refine XR_a (op_ld (so.cell 0 (i := 0) rfl rfl) rfl rfl rfl) rfl rfl ?_
      refine XR_a (op_move rfl) rfl rfl ?_
      first | refine XR_a (op_index1 rfl rfl rfl (by omega)) rfl rfl ?_ | refine XR_a (op_index rfl rfl rfl (by omega)) rfl rfl ?_
      refine XR_a (op_ld ((hcA t (nV ls[t]) (by simp [ht]))) rfl rfl rfl) rfl rfl ?_
      refine XR_a (op_assign rfl) rfl rfl ?_
      refine XR_nil ?_
      refine X_ret (.cons (.tmp rfl) .nil) ?_
      exact ⟨by rw [lenAt_nat ht]; rfl, rfl⟩

theorem cput_spec {B p q : Nat} {s : Int} {ls : List Nat} {bs : List Bool} {F : List Res} {h0 : Heap} (st : St B h0 h0 (wrR q bs :: codeR p ls :: F)) (hok : lensOK ls) (hb : bs.length ≤ 1099511627000) :
    Ret Try.prog 91 [.pointer (some ⟨p, 0, none⟩), .pointer (some ⟨q, 0, none⟩), .int .i64 s] h0
      fun v h' => v = .bool (decide (lenAt ls s ≠ 0)) ∧ St B h0 h' (wrR q (bs ++ codeBits (val ls s.toNat) (lenAt ls s)) :: codeR p ls :: F) := by
  have hl15 := lens_le hok s
  refine ret_of_X Try.func91 rfl rfl fun w0 hw0 => ?_
  simp only [argE, Nat.zero_add, Nat.reduceAdd]
  refine X_seq ?_
  refine X_reg ?_
  refine XR_a (op_assign rfl) rfl rfl ?_
  refine XR_nil ?_
  refine X_seq ?_
  refine X_reg ?_
  refine XR_a (op_move rfl) rfl rfl ?_
  refine XR_a (op_move rfl) rfl rfl ?_
  refine XR_wa (opl_call (clen_spec (st.perm (List.Perm.swap _ _ _)) hok.2.1) rfl (by kernel_rfl)) rfl rfl rfl ?_
  rintro _ _ ⟨rfl, rfl⟩
  refine XR_a (op_assign rfl) rfl rfl ?_
  refine XR_nil ?_
  refine X_seq ?_
  refine X_seq ?_
  refine X_reg ?_
  refine XR_a (op_move rfl) rfl rfl ?_
  refine XR_a (op_eql rfl rfl) rfl rfl ?_
  refine XR_nil ?_
  refine X_if rfl (fun h => ?_) (fun h => ?_)
  · refine X_seq ?_
    refine X_reg ?_
    refine XR_a (op_assign rfl) rfl rfl ?_
    refine XR_nil ?_
    refine X_ret (.cons (.tmp rfl) .nil) ?_
    have h0 : lenAt ls s = 0 := by omega
    rw [h0, codeBits, List.append_nil]
    exact ⟨rfl, st⟩
  · have hn0 : lenAt ls s ≠ 0 := by omega
    obtain ⟨t, rfl, ht, hlt⟩ := lenAt_pos hn0
    rw [Int.toNat_natCast]
    have hv := val_lt hok ht (by omega)
    have hv2 := fst_bd hok (n := ls[t]) (by omega)
    obtain ⟨n, hn⟩ : ∃ n, lenAt ls (t : Int) = n := ⟨_, rfl⟩
    obtain ⟨v, hvv⟩ : ∃ v, val ls t = v := ⟨_, rfl⟩
    rw [hn] at hn0 hl15 hlt ⊢
    rw [hvv] at hv ⊢
    have hvl : (vals ls)[t]? = some v := by simp [vals, ht, hvv]
    refine X_skip ?_
    refine X_seq ?_
    refine X_seq ?_
    refine X_reg ?_
    refine XR_a (op_move rfl) rfl rfl ?_
    first | refine XR_a (op_subN (n := 1) rfl rfl (by omega) (by simp only [inK]; omega)) rfl rfl ?_ | refine XR_a (op_subI rfl rfl (by simp only [inK]; omega)) rfl rfl ?_ | refine XR_a (op_sub rfl rfl) rfl rfl ?_
    refine XR_a (op_assign rfl) rfl rfl ?_
    refine XR_nil ?_
    refine X_block ?_
    refine X_loop (fun k => k) (fun k => [(0, .pointer (some ⟨p, 0, none⟩)), (1, .pointer (some ⟨q, 0, none⟩)), (2, .int .i64 (t : Int)), (8, .int .i64 ((k : Int) - 1))])
      (fun (k : Nat) hp => St B h0 hp (wrR q (bs ++ codeBits (v / 2 ^ k) (n - k)) :: codeR p ls :: F) ∧ k ≤ n)
      n (.cons rfl (.cons rfl (.cons rfl (.cons (congrArg (fun x : Int => some (Value.int .i64 x)) (by omega)) (.nil _))))) ⟨by rw [Nat.sub_self, codeBits, List.append_nil]; exact st, Nat.le_refl _⟩ ?_
    clear st
    rintro k hp ⟨st, hk⟩
    refine X_seq ?_
    refine X_seq ?_
    refine X_reg ?_
    refine XR_a (op_move rfl) rfl rfl ?_
    refine XR_a (op_geq rfl rfl) rfl rfl ?_
    refine XR_nil ?_
    refine X_if rfl (fun h => ?_) (fun h => ?_)
    · obtain ⟨j, rfl⟩ : ∃ j, k = j + 1 := ⟨k - 1, by omega⟩
      obtain ⟨va, vb, vo, so⟩ := (st.perm (List.Perm.swap _ _ _)).code
      obtain ⟨A, m, c, rfl, hlen, _, _, hrd⟩ := so.row 2 rfl
      obtain ⟨gA, oA, rfl, hcA⟩ := hrd.at_ (by rw [List.length_map, vals_length]; omega)
      rw [List.length_map, vals_length] at hlen
      have hci := hcA t (nV v) (map_get_nV hvl)
      have hyl : v / 2 ^ j ≤ 32768 := Nat.le_trans (Nat.div_le_self v (2 ^ j)) (by omega)
      obtain ⟨y, hy⟩ : ∃ y, v / 2 ^ j = y := ⟨_, rfl⟩
      rw [hy] at hyl
      have hln : (bs ++ codeBits (v / 2 ^ (j + 1)) (n - (j + 1))).length ≤ 1099511627776 := by rw [List.length_append, codeBits_length]; omega
      refine X_skip ?_
      refine X_seq ?_
      refine X_block ?_
      refine X_reg ?_
      refine XR_a (op_move rfl) rfl rfl ?_
      refine XR_a (op_move rfl) rfl rfl ?_
      refine XR_a (op_nilCheck rfl) rfl rfl ?_
      first | refine XR_a (op_field0 rfl rfl) rfl rfl ?_ | refine XR_a (op_fieldn rfl rfl) rfl rfl ?_
      refine XR_a (op_ld (so.cell 0 (i := 1) rfl rfl) rfl rfl rfl) rfl rfl ?_
      refine XR_a (op_move rfl) rfl rfl ?_
      first | refine XR_a (op_index1 rfl rfl rfl (by omega)) rfl rfl ?_ | refine XR_a (op_index rfl rfl rfl (by omega)) rfl rfl ?_
      refine XR_a (op_ld (hci) rfl rfl rfl) rfl rfl ?_
      refine XR_a (op_move rfl) rfl rfl ?_
      refine XR_as (.int .i64 (j : Int)) (congrArg (Value.int .i64) (by omega)) ?_
      refine XR_a (op_shrC (m := v) j rfl rfl (by simp only [IntKind.bits]; omega)) rfl rfl ?_
      refine XR_as (.int .i64 (y : Int)) (by rw [hy]) ?_
      refine XR_a (op_andS (m := y) (n := 1) rfl rfl (by simp only [inK]; omega) (by simp [inK])) rfl rfl ?_
      refine XR_as (.int .i64 ((y % 2 : Nat) : Int)) (by rw [Nat.and_one_is_mod]) ?_
      refine XR_a (op_convI (k' := .u32) rfl rfl (by simp only [inK]; omega)) rfl rfl ?_
      refine XR_wa (opl_call (put_spec (n := y % 2) (k := 1) st.here (by omega) hln) rfl (by kernel_rfl)) rfl rfl rfl ?_
      rintro _ hp ⟨rfl, st2⟩
      replace st := st.trans st2
      refine XR_nil ?_
      refine X_blk ?_
      refine X_reg ?_
      refine XR_a (op_move rfl) rfl rfl ?_
      first | refine XR_a (op_subN (n := 1) rfl rfl (by omega) (by simp only [inK]; omega)) rfl rfl ?_ | refine XR_a (op_subI rfl rfl (by simp only [inK]; omega)) rfl rfl ?_ | refine XR_a (op_sub rfl rfl) rfl rfl ?_
      refine XR_as (.int .i64 ((j : Int) - 1)) (congrArg (Value.int .i64) (by omega)) ?_
      refine XR_a (op_assign rfl) rfl rfl ?_
      refine XR_nil ?_
      refine X_again j (.cons rfl (.cons rfl (.cons rfl (.cons rfl (.nil _))))) ⟨?_, by omega⟩ (by omega)
      rw [show wd 32 1 = 1 from rfl, bitsN, bitsN, List.append_assoc] at st
      rw [show n - j = (n - (j + 1)) + 1 by omega, codeBits, Nat.div_div_eq_div_mul, ← Nat.pow_succ, hy]
      rw [show (y % 2 % 2 == 1) = (y % 2 == 1) by rw [Nat.mod_mod]] at st
      exact st
    · refine X_exit rfl ?_
      refine X_seq ?_
      refine X_reg ?_
      refine XR_a (op_assign rfl) rfl rfl ?_
      refine XR_nil ?_
      refine X_ret (.cons (.tmp rfl) .nil) ?_
      obtain rfl : k = 0 := by omega
      rw [Nat.pow_zero, Nat.div_one] at st
      exact ⟨by rw [decide_eq_true hn0]; rfl, st⟩

theorem over_spec {B p v n : Nat} {ls : List Nat} {F : List Res} {hb h0 : Heap} (st : St B hb h0 (codeR p ls :: F)) (hok : lensOK ls) (hn : n ≤ 15) (hv : v < 2 ^ n) :
    Ret Try.prog 133 [.pointer (some ⟨p, 0, none⟩), .int .i64 (v : Int), .int .i64 (n : Int)] h0 fun w h' => w = .bool (overB ls v n) ∧ h0 = h' := by
  obtain ⟨va, vb, vo, so⟩ := st.code
  refine ret_of_X Try.func133 rfl rfl fun w0 hw0 => ?_
  simp only [argE, Nat.zero_add, Nat.reduceAdd]
  refine X_seq ?_
  refine X_reg ?_
  refine XR_a (op_assign rfl) rfl rfl ?_
  refine XR_nil ?_
  refine X_seq ?_
  refine X_seq ?_
  refine X_reg ?_
  refine XR_a (op_move rfl) rfl rfl ?_
  first | refine XR_a (op_addN (n := 1) rfl rfl (by simp only [inK]; omega)) rfl rfl ?_ | refine XR_a (op_addI rfl rfl (by simp only [inK]; omega)) rfl rfl ?_ | refine XR_a (op_add rfl rfl) rfl rfl ?_
  refine XR_a (op_assign rfl) rfl rfl ?_
  refine XR_nil ?_
  refine X_block ?_
  refine X_loop (fun k => 17 - k) (fun k => [(0, .pointer (some ⟨p, 0, none⟩)), (1, .int .i64 (v : Int)), (2, .int .i64 (n : Int)), (7, .int .i64 (k : Int))])
    (fun (k : Nat) hp => hp = h0 ∧ n < k ∧ k ≤ 16 ∧ ∀ j, n < j → j < k → ¬ beginC ls v n j)
    (n + 1) (.cons rfl (.cons rfl (.cons rfl (.cons rfl (.nil _))))) ⟨rfl, by omega, by omega, fun j h1 h2 => by omega⟩ ?_
  rintro k hp ⟨rfl, hk1, hk2, hno⟩
  refine X_seq ?_
  refine X_seq ?_
  refine X_reg ?_
  refine XR_a (op_move rfl) rfl rfl ?_
  refine XR_a (op_leq rfl rfl) rfl rfl ?_
  refine XR_nil ?_
  refine X_if rfl (fun h => ?_) (fun h => ?_)
  · have hk : k ≤ 15 := by omega
    have hbd := fst_bd hok hk
    have hpk : 2 ^ n * 2 ^ (k - n) = 2 ^ k := by rw [← Nat.pow_add, show n + (k - n) = k by omega]
    have hpk2 : 2 ^ k ≤ 32768 := Nat.pow_le_pow_right (n := 2) (by omega) hk
    have hpos : 0 < 2 ^ (k - n) := Nat.pow_pos (by omega)
    have hv1 : (v + 1) * 2 ^ (k - n) ≤ 32768 := Nat.le_trans (Nat.mul_le_mul_right _ hv) (by omega)
    have hv0 : v * 2 ^ (k - n) ≤ 32768 := Nat.le_trans (Nat.mul_le_mul_right _ (by omega)) hv1
    have hgm : (cnts ls)[k]? = some (cn ls k) := by simp [cnts, show k < 16 by omega]
    have hgf : (fstTo ls 16)[k]? = some (fst ls k) := by simp [fstTo, show k < 16 by omega]
    have hvn : v < 32768 := Nat.lt_of_lt_of_le hv (Nat.pow_le_pow_right (n := 2) (by omega) hn)
    refine X_skip ?_
    refine X_seq ?_
    refine X_block ?_
    refine X_seq ?_
    refine X_draw byKind (by kernel_rfl) (by kernel_rfl) ?_
    refine XR_a (op_move rfl) rfl rfl ?_
    refine XR_a (op_move rfl) rfl rfl ?_
    refine XR_a (op_move rfl) rfl rfl ?_
    refine XR_a (op_subN (m := k) (n := n) rfl rfl (by omega) (by simp only [inK]; omega)) rfl rfl ?_
    refine XR_a (op_shlC (m := v) (k - n) rfl rfl (by simp only [IntKind.bits]; omega) (by simp only [inK]; omega)) rfl rfl ?_
    refine XR_a (op_move rfl) rfl rfl ?_
    first | refine XR_a (op_addN (n := 1) rfl rfl (by simp only [inK]; omega)) rfl rfl ?_ | refine XR_a (op_addI rfl rfl (by simp only [inK]; omega)) rfl rfl ?_ | refine XR_a (op_add rfl rfl) rfl rfl ?_
    refine XR_as (.int .i64 ((v + 1 : Nat) : Int)) rfl ?_
    refine XR_a (op_move rfl) rfl rfl ?_
    refine XR_a (op_move rfl) rfl rfl ?_
    refine XR_a (op_subN (m := k) (n := n) rfl rfl (by omega) (by simp only [inK]; omega)) rfl rfl ?_
    refine XR_a (op_shlC (m := v + 1) (k - n) rfl rfl (by simp only [IntKind.bits]; omega) (by simp only [inK]; omega)) rfl rfl ?_
    refine XR_a (op_assign rfl) rfl rfl ?_
    refine XR_a (op_assign rfl) rfl rfl ?_
    refine XR_nil ?_
    refine X_seq ?_
    refine X_draw byKind (by kernel_rfl) (by kernel_rfl) ?_
    refine XR_a (op_move rfl) rfl rfl ?_
    refine XR_a (op_move rfl) rfl rfl ?_
    refine XR_a (op_nilCheck rfl) rfl rfl ?_
    first | refine XR_a (op_field0 rfl rfl) rfl rfl ?_ | refine XR_a (op_fieldn rfl rfl) rfl rfl ?_
    first | refine XR_a (op_indexA1 rfl rfl rfl (by omega)) rfl rfl ?_ | refine XR_a (op_indexO rfl rfl rfl (by omega)) rfl rfl ?_ | refine XR_a (op_indexA rfl rfl rfl (by omega)) rfl rfl ?_
    refine XR_a (op_ld (so.cell 0 (i := 18 + k) rfl ((codeC_m (fstTo_len _ _) (by rw [cnts_len]; omega)).trans (map_get_nV hgm))) rfl rfl rfl) rfl rfl ?_
    refine XR_a (op_gtr rfl rfl) rfl rfl ?_
    refine XR_a (op_move rfl) rfl rfl ?_
    refine XR_if 34 rfl (fun h => ?_) (fun h => ?_)
    · refine XR_a (op_move rfl) rfl rfl ?_
      refine XR_a (op_move rfl) rfl rfl ?_
      refine XR_a (op_nilCheck rfl) rfl rfl ?_
      first | refine XR_a (op_field0 rfl rfl) rfl rfl ?_ | refine XR_a (op_fieldn rfl rfl) rfl rfl ?_
      first | refine XR_a (op_indexA1 rfl rfl rfl (by omega)) rfl rfl ?_ | refine XR_a (op_indexO rfl rfl rfl (by omega)) rfl rfl ?_ | refine XR_a (op_indexA rfl rfl rfl (by omega)) rfl rfl ?_
      refine XR_a (op_ld (so.cell 0 (i := 2 + k) rfl ((codeC_f (by rw [fstTo_len]; omega)).trans (map_get_nV hgf))) rfl rfl rfl) rfl rfl ?_
      refine XR_a (op_move rfl) rfl rfl ?_
      refine XR_a (op_lss rfl rfl) rfl rfl ?_
      refine XR_a (op_pick_t rfl rfl) rfl rfl ?_
      refine XR_a (op_move rfl) rfl rfl ?_
      refine XR_if 44 rfl (fun h => ?_) (fun h => ?_)
      · refine XR_a (op_move rfl) rfl rfl ?_
        refine XR_a (op_move rfl) rfl rfl ?_
        refine XR_a (op_nilCheck rfl) rfl rfl ?_
        first | refine XR_a (op_field0 rfl rfl) rfl rfl ?_ | refine XR_a (op_fieldn rfl rfl) rfl rfl ?_
        first | refine XR_a (op_indexA1 rfl rfl rfl (by omega)) rfl rfl ?_ | refine XR_a (op_indexO rfl rfl rfl (by omega)) rfl rfl ?_ | refine XR_a (op_indexA rfl rfl rfl (by omega)) rfl rfl ?_
        refine XR_a (op_ld (so.cell 0 (i := 2 + k) rfl ((codeC_f (by rw [fstTo_len]; omega)).trans (map_get_nV hgf))) rfl rfl rfl) rfl rfl ?_
        refine XR_a (op_move rfl) rfl rfl ?_
        refine XR_a (op_move rfl) rfl rfl ?_
        refine XR_a (op_nilCheck rfl) rfl rfl ?_
        first | refine XR_a (op_field0 rfl rfl) rfl rfl ?_ | refine XR_a (op_fieldn rfl rfl) rfl rfl ?_
        first | refine XR_a (op_indexA1 rfl rfl rfl (by omega)) rfl rfl ?_ | refine XR_a (op_indexO rfl rfl rfl (by omega)) rfl rfl ?_ | refine XR_a (op_indexA rfl rfl rfl (by omega)) rfl rfl ?_
        refine XR_a (op_ld (so.cell 0 (i := 18 + k) rfl ((codeC_m (fstTo_len _ _) (by rw [cnts_len]; omega)).trans (map_get_nV hgm))) rfl rfl rfl) rfl rfl ?_
        first | refine XR_a (op_addN rfl rfl (by simp only [inK]; omega)) rfl rfl ?_ | refine XR_a (op_addI rfl rfl (by simp only [inK]; omega)) rfl rfl ?_ | refine XR_a (op_add rfl rfl) rfl rfl ?_
        refine XR_a (op_move rfl) rfl rfl ?_
        refine XR_a (op_gtr rfl rfl) rfl rfl ?_
        refine XR_a (op_pick_t rfl rfl) rfl rfl ?_
        refine XR_nil ?_
        refine X_if rfl (fun h => ?_) (fun h => ?_)
        · refine X_seq ?_
          refine X_reg ?_
          refine XR_a (op_assign rfl) rfl rfl ?_
          refine XR_nil ?_
          refine X_ret (.cons (.tmp rfl) .nil) ?_
          have hbg : beginC ls v n k := ⟨by omega, by omega, by omega⟩
          refine ⟨congrArg Value.bool (Eq.symm ?_), rfl⟩
          exact Bool.eq_false_iff.2 fun hh => overB_iff.1 hh k hk1 (by omega) hbg
        · refine X_skip ?_
          refine X_blk ?_
          refine X_reg ?_
          refine XR_a (op_move rfl) rfl rfl ?_
          first | refine XR_a (op_addN (n := 1) rfl rfl (by simp only [inK]; omega)) rfl rfl ?_ | refine XR_a (op_addI rfl rfl (by simp only [inK]; omega)) rfl rfl ?_ | refine XR_a (op_add rfl rfl) rfl rfl ?_
          refine XR_a (op_assign rfl) rfl rfl ?_
          refine XR_nil ?_
          exact X_again (k + 1) (.cons rfl (.cons rfl (.cons rfl (.cons rfl (.nil _))))) ⟨rfl, by omega, by omega, fun j h1 h2 => by
            rcases Nat.lt_or_ge j k with h3 | h3
            · exact hno j h1 h3
            · obtain rfl : j = k := by omega
              rintro ⟨b1, b2, b3⟩; omega⟩ (by omega)
      · refine XR_no rfl rfl ?_
        refine XR_no rfl rfl ?_
        refine XR_no rfl rfl ?_
        refine XR_no rfl rfl ?_
        refine XR_no rfl rfl ?_
        refine XR_no rfl rfl ?_
        refine XR_no rfl rfl ?_
        refine XR_no rfl rfl ?_
        refine XR_no rfl rfl ?_
        refine XR_no rfl rfl ?_
        refine XR_no rfl rfl ?_
        refine XR_no rfl rfl ?_
        refine XR_no rfl rfl ?_
        refine XR_no rfl rfl ?_
        refine XR_no rfl rfl ?_
        refine XR_a (op_pick_f rfl rfl) rfl rfl ?_
        refine XR_nil ?_
        refine X_else rfl ?_
        refine X_skip ?_
        refine X_blk ?_
        refine X_reg ?_
        refine XR_a (op_move rfl) rfl rfl ?_
        first | refine XR_a (op_addN (n := 1) rfl rfl (by simp only [inK]; omega)) rfl rfl ?_ | refine XR_a (op_addI rfl rfl (by simp only [inK]; omega)) rfl rfl ?_ | refine XR_a (op_add rfl rfl) rfl rfl ?_
        refine XR_a (op_assign rfl) rfl rfl ?_
        refine XR_nil ?_
        exact X_again (k + 1) (.cons rfl (.cons rfl (.cons rfl (.cons rfl (.nil _))))) ⟨rfl, by omega, by omega, fun j h1 h2 => by
          rcases Nat.lt_or_ge j k with h3 | h3
          · exact hno j h1 h3
          · obtain rfl : j = k := by omega
            rintro ⟨b1, b2, b3⟩; omega⟩ (by omega)
    · refine XR_no rfl rfl ?_
      refine XR_no rfl rfl ?_
      refine XR_no rfl rfl ?_
      refine XR_no rfl rfl ?_
      refine XR_no rfl rfl ?_
      refine XR_no rfl rfl ?_
      refine XR_no rfl rfl ?_
      refine XR_no rfl rfl ?_
      refine XR_a (op_pick_f rfl rfl) rfl rfl ?_
      refine XR_a (op_move rfl) rfl rfl ?_
      refine XR_no rfl rfl ?_
      refine XR_no rfl rfl ?_
      refine XR_no rfl rfl ?_
      refine XR_no rfl rfl ?_
      refine XR_no rfl rfl ?_
      refine XR_no rfl rfl ?_
      refine XR_no rfl rfl ?_
      refine XR_no rfl rfl ?_
      refine XR_no rfl rfl ?_
      refine XR_no rfl rfl ?_
      refine XR_no rfl rfl ?_
      refine XR_no rfl rfl ?_
      refine XR_no rfl rfl ?_
      refine XR_no rfl rfl ?_
      refine XR_no rfl rfl ?_
      refine XR_a (op_pick_f rfl rfl) rfl rfl ?_
      refine XR_nil ?_
      refine X_else rfl ?_
      refine X_skip ?_
      refine X_blk ?_
      refine X_reg ?_
      refine XR_a (op_move rfl) rfl rfl ?_
      first | refine XR_a (op_addN (n := 1) rfl rfl (by simp only [inK]; omega)) rfl rfl ?_ | refine XR_a (op_addI rfl rfl (by simp only [inK]; omega)) rfl rfl ?_ | refine XR_a (op_add rfl rfl) rfl rfl ?_
      refine XR_a (op_assign rfl) rfl rfl ?_
      refine XR_nil ?_
      exact X_again (k + 1) (.cons rfl (.cons rfl (.cons rfl (.cons rfl (.nil _))))) ⟨rfl, by omega, by omega, fun j h1 h2 => by
        rcases Nat.lt_or_ge j k with h3 | h3
        · exact hno j h1 h3
        · obtain rfl : j = k := by omega
          rintro ⟨b1, b2, b3⟩; omega⟩ (by omega)
  · refine X_exit rfl ?_
    refine X_seq ?_
    refine X_reg ?_
    refine XR_a (op_assign rfl) rfl rfl ?_
    refine XR_nil ?_
    refine X_ret (.cons (.tmp rfl) .nil) ?_
    exact ⟨congrArg Value.bool (overB_iff.2 fun j h1 h2 => hno j h1 (by omega)).symm, rfl⟩

theorem numB_bit (bs : List Bool) (a j : Nat) (hj : j < 15) (h : j < (bs.drop a).length) : numB bs a 15 / 2 ^ j % 2 = ((bs.drop a)[j]).toNat := by
  unfold numB
  rw [← valB_drop, List.drop_take, List.drop_eq_getElem_cons h, show 15 - j = (14 - j) + 1 by omega, List.take_succ_cons, valB]
  have : ((bs.drop a)[j]).toNat ≤ 1 := Bool.toNat_le _
  omega
theorem order_at {ls : List Nat} {n j : Nat} (h1 : 1 ≤ n) (h2 : n ≤ 15) (hj : j < cn ls n) : (orderTo ls 16)[(orderTo ls n).length + j]? = some (symAt ls n j) := by
  have hlen : (ofLen ls n ls.length).length = cn ls n := by rw [ofLen_length ls n _ (Nat.le_refl _), List.take_length, cn_pos ls (by omega)]
  have key : ∀ d, n + 1 + d ≤ 16 → ∃ r, orderTo ls (n + 1 + d) = orderTo ls n ++ ofLen ls n ls.length ++ r := by
    intro d
    induction d with
    | zero => intro _; exact ⟨[], by rw [Nat.add_zero, orderTo_succ ls h1, List.append_nil]⟩
    | succ d ih =>
      intro hd
      obtain ⟨r, hr⟩ := ih (by omega)
      exact ⟨r ++ ofLen ls (n + 1 + d) ls.length, by rw [← Nat.add_assoc, orderTo_succ ls (by omega), hr, List.append_assoc (_ ++ _)]⟩
  obtain ⟨r, hr⟩ := key (15 - n) (by omega)
  rw [show n + 1 + (15 - n) = 16 by omega] at hr
  rw [hr, List.append_assoc, List.getElem?_append_right (by omega), Nat.add_sub_cancel_left, List.getElem?_append_left (by omega)]
  unfold symAt
  rw [List.getD, List.getElem?_eq_getElem (by omega)]; rfl
theorem order_len {ls : List Nat} {n : Nat} (h1 : 1 ≤ n) : (orderTo ls (n + 1)).length = (orderTo ls n).length + cn ls n := by
  rw [orderTo_succ ls h1, List.length_append, ofLen_length ls n _ (Nat.le_refl _), List.take_length, cn_pos ls (by omega)]

theorem ctake_spec {B p q m c a : Nat} {A : Option Addr} {l : List UInt8} {ls : List Nat} {F : List Res} {h0 : Heap} (st : St B h0 h0 (rdG q A m c a :: codeR p ls :: F)) (hok : lensOK ls)
    (hr : Rd h0 A (l.map byteV)) (hl : l.length = m) (hm : m ≤ 1099511627776) (ha : a ≤ 8 * m) :
    Ret Try.prog 115 [.pointer (some ⟨p, 0, none⟩), .pointer (some ⟨q, 0, none⟩)] h0
      fun v h' => v = retVal [.int .i64 ((takeC ls ((bitsB l).drop a)).1 : Nat), .int .i64 ((takeC ls ((bitsB l).drop a)).2.2 : Nat)] ∧ St B h0 h' (rdG q A m c (a + (takeC ls ((bitsB l).drop a)).2.1) :: codeR p ls :: F) := by
  have hbl : ((bitsB l).drop a).length = 8 * m - a := by rw [List.length_drop, bitsB_length, hl]
  have htk : takeC ls ((bitsB l).drop a) = takeGo ls ((bitsB l).drop a) (min (8 * m - a) 15) 16 1 := by unfold takeC; rw [hbl]
  have hbit := numB_bit (bitsB l) a
  have hnum := numB_lt (bitsB l) a 15
  obtain ⟨bs, hbs⟩ : ∃ bs, (bitsB l).drop a = bs := ⟨_, rfl⟩
  rw [hbs] at hbl htk hbit ⊢
  obtain ⟨T, hT⟩ : ∃ T, takeC ls bs = T := ⟨_, rfl⟩
  rw [hT] at htk ⊢
  obtain ⟨lf, hlf⟩ : ∃ lf, min (8 * m - a) 15 = lf := ⟨_, rfl⟩
  rw [hlf] at htk
  obtain ⟨va, vb, vo, so⟩ := (st.perm (List.Perm.swap _ _ _)).code
  have hob : ∀ n, 1 ≤ n → (orderTo ls (n + 1)).length = (orderTo ls n).length + cn ls n := fun n h => order_len h
  have hol : ∀ n, 1 ≤ n → n ≤ 16 → (orderTo ls n).length ≤ 4800 := by
    intro n h1 h2
    obtain ⟨k, rfl⟩ : ∃ k, n = k + 1 := ⟨n - 1, by omega⟩
    have := orderTo_le ls k
    have := Nat.mul_le_mul (show k ≤ 15 by omega) hok.2.1
    omega
  refine ret_of_X Try.func115 rfl rfl fun w0 hw0 => ?_
  simp only [argE, Nat.zero_add, Nat.reduceAdd]
  refine X_seq ?_
  refine X_reg ?_
  refine XR_a (op_assign rfl) rfl rfl ?_
  refine XR_a (op_assign rfl) rfl rfl ?_
  refine XR_nil ?_
  refine X_scope rfl (fun _ _ _ hh => hh) ?_
  refine X_seq ?_
  refine X_seq ?_
  refine X_reg ?_
  refine XR_a (op_move rfl) rfl rfl ?_
  refine XR_a (op_ptr_nil rfl rfl rfl) rfl rfl ?_
  refine XR_a (op_move rfl) rfl rfl ?_
  refine XR_a (op_move rfl) rfl rfl ?_
  refine XR_a (op_ptr_nil rfl rfl rfl) rfl rfl ?_
  refine XR_a (op_pick_f rfl rfl) rfl rfl ?_
  refine XR_nil ?_
  refine X_else rfl ?_
  refine X_skip ?_
  refine X_seq ?_
  refine X_reg ?_
  refine XR_a (op_move rfl) rfl rfl ?_
  refine XR_wa (opl_call (rleft_spec (st.cell 0 rfl rfl) (st.cell 0 rfl rfl) hm ha) rfl (by kernel_rfl)) rfl rfl rfl ?_
  rintro _ _ ⟨rfl, rfl⟩
  refine XR_a (op_min2 rfl rfl) rfl rfl ?_
  refine XR_as (.int .i64 (lf : Int)) (congrArg (Value.int .i64) (by omega)) ?_
  refine XR_a (op_assign rfl) rfl rfl ?_
  refine XR_nil ?_
  refine X_seq ?_
  refine X_reg ?_
  refine XR_a (op_move rfl) rfl rfl ?_
  refine XR_wa (opl_call (rpeek_spec (k := 15) (st.cell 0 rfl rfl) (st.cell 0 rfl rfl) hr hl hm ha) rfl (by kernel_rfl)) rfl rfl rfl ?_
  rintro _ _ ⟨rfl, rfl⟩
  refine XR_a (op_assign rfl) rfl rfl ?_
  refine XR_nil ?_
  refine X_seq ?_
  refine X_reg ?_
  refine XR_a (op_assign rfl) rfl rfl ?_
  refine XR_nil ?_
  refine X_seq ?_
  refine X_reg ?_
  refine XR_a (op_assign rfl) rfl rfl ?_
  refine XR_a (op_assign rfl) rfl rfl ?_
  refine XR_nil ?_
  refine X_seq ?_
  refine X_label ?_
  refine X_seq ?_
  refine X_seq ?_
  refine X_reg ?_
  refine XR_a (op_assign rfl) rfl rfl ?_
  refine XR_nil ?_
  refine X_block ?_
  refine X_loop (fun n => 17 - n) (fun n => [(0, .pointer (some ⟨p, 0, none⟩)), (1, .pointer (some ⟨q, 0, none⟩)), (6, .int .i64 (lf : Int)), (7, .int .u32 (numB (bitsB l) a 15 : Nat)), (8, .int .i64 2), (9, .int .i64 (tval (bs.take (n - 1)) : Nat)), (10, .int .i64 ((orderTo ls n).length : Nat)), (11, .int .i64 (n : Int))])
    (fun (n : Nat) hp => hp = h0 ∧ 1 ≤ n ∧ n ≤ lf + 1 ∧ T = takeGo ls bs lf (17 - n) n)
    1 (.cons rfl (.cons rfl (.cons rfl (.cons rfl (.cons rfl (.cons rfl (.cons rfl (.cons rfl (.nil _))))))))) ⟨rfl, by omega, by omega, htk⟩ ?_
  rintro n hp ⟨rfl, hn1, hn2, hgo⟩
  refine X_seq ?_
  refine X_seq ?_
  refine X_reg ?_
  refine XR_a (op_move rfl) rfl rfl ?_
  refine XR_a (op_move rfl) rfl rfl ?_
  refine XR_a (op_leq rfl rfl) rfl rfl ?_
  refine XR_nil ?_
  refine X_if rfl (fun h => ?_) (fun h => ?_)
  · have hnl : n ≤ lf := by omega
    have hn15 : n ≤ 15 := by omega
    have hbd := fst_bd hok hn15
    have hgm : (cnts ls)[n]? = some (cn ls n) := by simp [cnts, show n < 16 by omega]
    have hgf : (fstTo ls 16)[n]? = some (fst ls n) := by simp [fstTo, show n < 16 by omega]
    have hb := hbit (n - 1) (by omega) (by omega)
    have hyl : numB (bitsB l) a 15 / 2 ^ (n - 1) ≤ 32768 := Nat.le_trans (Nat.div_le_self _ _) (by omega)
    obtain ⟨y, hy⟩ : ∃ y, numB (bitsB l) a 15 / 2 ^ (n - 1) = y := ⟨_, rfl⟩
    rw [hy] at hyl hb
    have htv : tval (bs.take n) = tval (bs.take (n - 1)) * 2 + (bs[n - 1]'(by omega)).toNat := by
      have := tval_take_succ bs (n := n - 1) (by omega)
      rwa [show n - 1 + 1 = n by omega] at this
    have hlt := tval_lt bs n
    have hlt2 : 2 ^ n ≤ 32768 := Nat.pow_le_pow_right (n := 2) (by omega) hn15
    obtain ⟨g, hg⟩ : ∃ g, 17 - n = g + 1 := ⟨16 - n, by omega⟩
    rw [hg, takeGo, if_neg (by omega)] at hgo
    have hon := hob n hn1
    have holn := hol n hn1 (by omega)
    refine X_skip ?_
    refine X_seq ?_
    refine X_block ?_
    refine X_seq ?_
    refine X_reg ?_
    refine XR_a (op_move rfl) rfl rfl ?_
    refine XR_a (op_mulN (m := tval (bs.take (n - 1))) (n := 2) rfl rfl (by simp only [inK]; omega)) rfl rfl ?_
    refine XR_a (op_move rfl) rfl rfl ?_
    refine XR_a (op_move rfl) rfl rfl ?_
    refine XR_a (op_subN (m := n) (n := 1) rfl rfl (by omega) (by simp only [inK]; omega)) rfl rfl ?_
    refine XR_a (op_shrC (m := numB (bitsB l) a 15) (n - 1) rfl rfl (by simp only [IntKind.bits]; omega)) rfl rfl ?_
    refine XR_as (.int .u32 (y : Int)) (by rw [hy]) ?_
    refine XR_a (op_andS (m := y) (n := 1) rfl rfl (by simp only [inK]; omega) (by simp [inK])) rfl rfl ?_
    refine XR_as (.int .u32 (((bs[n - 1]'(by omega)).toNat : Nat) : Int)) (by rw [Nat.and_one_is_mod, ← hb]) ?_
    refine XR_a (op_convI (k' := .i64) rfl rfl (by have : (bs[n - 1]'(by omega)).toNat ≤ 1 := Bool.toNat_le _; simp only [inK]; omega)) rfl rfl ?_
    refine XR_a (op_addN (m := tval (bs.take (n - 1)) * 2) (n := (bs[n - 1]'(by omega)).toNat) rfl rfl (by simp only [inK]; omega)) rfl rfl ?_
    refine XR_as (.int .i64 ((tval (bs.take n) : Nat) : Int)) (by rw [htv]) ?_
    refine XR_a (op_assign rfl) rfl rfl ?_
    refine XR_nil ?_
    refine X_seq ?_
    refine X_seq ?_
    refine X_reg ?_
    refine XR_a (op_move rfl) rfl rfl ?_
    refine XR_a (op_move rfl) rfl rfl ?_
    refine XR_a (op_move rfl) rfl rfl ?_
    refine XR_a (op_nilCheck rfl) rfl rfl ?_
    first | refine XR_a (op_field0 rfl rfl) rfl rfl ?_ | refine XR_a (op_fieldn rfl rfl) rfl rfl ?_
    first | refine XR_a (op_indexA1 rfl rfl rfl (by omega)) rfl rfl ?_ | refine XR_a (op_indexO rfl rfl rfl (by omega)) rfl rfl ?_ | refine XR_a (op_indexA rfl rfl rfl (by omega)) rfl rfl ?_
    refine XR_a (op_ld (so.cell 0 (i := 2 + n) rfl ((codeC_f (by rw [fstTo_len]; omega)).trans (map_get_nV hgf))) rfl rfl rfl) rfl rfl ?_
    first | refine XR_a (op_subN rfl rfl (by omega) (by simp only [inK]; omega)) rfl rfl ?_ | refine XR_a (op_subI rfl rfl (by simp only [inK]; omega)) rfl rfl ?_ | refine XR_a (op_sub rfl rfl) rfl rfl ?_
    refine XR_a (op_assign rfl) rfl rfl ?_
    refine XR_nil ?_
    refine X_block ?_
    refine X_seq ?_
    refine X_reg ?_
    refine XR_a (op_move rfl) rfl rfl ?_
    refine XR_a (op_geq rfl rfl) rfl rfl ?_
    refine XR_a (op_move rfl) rfl rfl ?_
    refine XR_if 49 rfl (fun h => ?_) (fun h => ?_)
    · refine XR_a (op_move rfl) rfl rfl ?_
      refine XR_a (op_move rfl) rfl rfl ?_
      refine XR_a (op_move rfl) rfl rfl ?_
      refine XR_a (op_nilCheck rfl) rfl rfl ?_
      first | refine XR_a (op_field0 rfl rfl) rfl rfl ?_ | refine XR_a (op_fieldn rfl rfl) rfl rfl ?_
      first | refine XR_a (op_indexA1 rfl rfl rfl (by omega)) rfl rfl ?_ | refine XR_a (op_indexO rfl rfl rfl (by omega)) rfl rfl ?_ | refine XR_a (op_indexA rfl rfl rfl (by omega)) rfl rfl ?_
      refine XR_a (op_ld (so.cell 0 (i := 18 + n) rfl ((codeC_m (fstTo_len _ _) (by rw [cnts_len]; omega)).trans (map_get_nV hgm))) rfl rfl rfl) rfl rfl ?_
      refine XR_a (op_lss rfl rfl) rfl rfl ?_
      refine XR_a (op_pick_t rfl rfl) rfl rfl ?_
      refine XR_a (op_assign rfl) rfl rfl ?_
      refine XR_nil ?_
      refine X_if rfl (fun h => ?_) (fun h => ?_)
      · have hhit : hitC ls (tval (bs.take n)) n := ⟨by omega, by omega⟩
        rw [if_pos hhit] at hgo
        subst hgo
        have hwd : wd 32 (n : Int) = n := by unfold wd; omega
        refine X_seq ?_
        refine X_reg ?_
        refine XR_a (op_move rfl) rfl rfl ?_
        refine XR_a (op_move rfl) rfl rfl ?_
        refine XR_wa (opl_call (rskip_spec (k := (n : Int)) st hm ha) rfl (by kernel_rfl)) rfl rfl rfl ?_
        rintro _ hp ⟨_, st⟩
        rw [hwd, if_pos (by omega)] at st
        obtain ⟨va, vb, vo, so⟩ := (st.perm (List.Perm.swap _ _ _)).code
        obtain ⟨A4, n4, c4, rfl, hlen4, _, _, hrd4⟩ := so.row 3 rfl
        have hoa := order_at (ls := ls) (n := n) (j := tval (bs.take n) - fst ls n) hn1 hn15 (by omega)
        have hol4 := (List.getElem?_eq_some_iff.1 hoa).1
        rw [List.length_map] at hlen4
        obtain ⟨g4, o4, rfl, hcA⟩ := hrd4.at_ (by rw [List.length_map]; omega)
        refine XR_nil ?_
        refine X_seq ?_
        refine X_reg ?_
        refine XR_a (op_move rfl) rfl rfl ?_
        refine XR_a (op_nilCheck rfl) rfl rfl ?_
        first | refine XR_a (op_field0 rfl rfl) rfl rfl ?_ | refine XR_a (op_fieldn rfl rfl) rfl rfl ?_
        refine XR_a (op_ld (so.cell 0 (i := 34) rfl (codeC_o (fstTo_len _ _) (cnts_len _))) rfl rfl rfl) rfl rfl ?_
        refine XR_a (op_move rfl) rfl rfl ?_
        refine XR_a (op_move rfl) rfl rfl ?_
        first | refine XR_a (op_addN rfl rfl (by simp only [inK]; omega)) rfl rfl ?_ | refine XR_a (op_addI rfl rfl (by simp only [inK]; omega)) rfl rfl ?_ | refine XR_a (op_add rfl rfl) rfl rfl ?_
        refine XR_as (.int .i64 (((orderTo ls n).length + (tval (bs.take n) - fst ls n) : Nat) : Int)) (congrArg (Value.int .i64) (by omega)) ?_
        first | refine XR_a (op_index1 rfl rfl rfl (by omega)) rfl rfl ?_ | refine XR_a (op_index rfl rfl rfl (by omega)) rfl rfl ?_
        refine XR_a (op_ld (hcA _ _ (map_get_nV hoa)) rfl rfl rfl) rfl rfl ?_
        refine XR_a (op_assign rfl) rfl rfl ?_
        refine XR_a (op_assign rfl) rfl rfl ?_
        refine XR_nil ?_
        refine X_ret (.cons (.tmp rfl) (.cons (.tmp rfl) .nil)) ?_
        exact ⟨rfl, st⟩
      · refine X_seq ?_
        have hnh : ¬ hitC ls (tval (bs.take n)) n := by rintro ⟨h1, h2⟩; omega
        rw [if_neg hnh] at hgo
        refine X_reg ?_
        refine XR_a (op_move rfl) rfl rfl ?_
        refine XR_a (op_move rfl) rfl rfl ?_
        refine XR_a (op_move rfl) rfl rfl ?_
        refine XR_wa (opl_call (over_spec (st.perm (List.Perm.swap _ _ _)) hok hn15 hlt) rfl (by kernel_rfl)) rfl rfl rfl ?_
        rintro _ _ ⟨rfl, rfl⟩
        refine XR_a (op_assign rfl) rfl rfl ?_
        refine XR_nil ?_
        refine X_cond rfl (fun h => ?_) (fun h => ?_)
        · rw [if_pos h] at hgo
          subst hgo
          refine X_seq ?_
          refine X_reg ?_
          refine XR_a (op_assign rfl) rfl rfl ?_
          refine XR_nil ?_
          refine X_exit rfl ?_
          refine X_seq ?_
          refine X_reg ?_
          refine XR_a (op_move rfl) rfl rfl ?_
          refine XR_a (op_assign rfl) rfl rfl ?_
          refine XR_a (op_assign rfl) rfl rfl ?_
          refine XR_nil ?_
          refine X_ret (.cons (.tmp rfl) (.cons (.tmp rfl) .nil)) ?_
          exact ⟨rfl, st⟩
        · rw [if_neg (by rw [h]; simp)] at hgo
          refine X_skip ?_
          refine X_blk ?_
          refine X_reg ?_
          refine XR_a (op_move rfl) rfl rfl ?_
          refine XR_a (op_move rfl) rfl rfl ?_
          refine XR_a (op_move rfl) rfl rfl ?_
          refine XR_a (op_nilCheck rfl) rfl rfl ?_
          first | refine XR_a (op_field0 rfl rfl) rfl rfl ?_ | refine XR_a (op_fieldn rfl rfl) rfl rfl ?_
          first | refine XR_a (op_indexA1 rfl rfl rfl (by omega)) rfl rfl ?_ | refine XR_a (op_indexO rfl rfl rfl (by omega)) rfl rfl ?_ | refine XR_a (op_indexA rfl rfl rfl (by omega)) rfl rfl ?_
          refine XR_a (op_ld (so.cell 0 (i := 18 + n) rfl ((codeC_m (fstTo_len _ _) (by rw [cnts_len]; omega)).trans (map_get_nV hgm))) rfl rfl rfl) rfl rfl ?_
          first | refine XR_a (op_addN rfl rfl (by simp only [inK]; omega)) rfl rfl ?_ | refine XR_a (op_addI rfl rfl (by simp only [inK]; omega)) rfl rfl ?_ | refine XR_a (op_add rfl rfl) rfl rfl ?_
          refine XR_as (.int .i64 ((orderTo ls (n + 1)).length : Nat)) (by rw [hon]) ?_
          refine XR_a (op_assign rfl) rfl rfl ?_
          refine XR_nil ?_
          refine X_blk ?_
          refine X_reg ?_
          refine XR_a (op_move rfl) rfl rfl ?_
          first | refine XR_a (op_addN (n := 1) rfl rfl (by simp only [inK]; omega)) rfl rfl ?_ | refine XR_a (op_addI rfl rfl (by simp only [inK]; omega)) rfl rfl ?_ | refine XR_a (op_add rfl rfl) rfl rfl ?_
          refine XR_a (op_assign rfl) rfl rfl ?_
          refine XR_nil ?_
          exact X_again (n + 1) (.cons rfl (.cons rfl (.cons rfl (.cons rfl (.cons rfl (.cons rfl (.cons rfl (.cons rfl (.nil _))))))))) ⟨rfl, by omega, by omega, by rw [hgo, show 17 - (n + 1) = g by omega]⟩ (by omega)
    · refine XR_no rfl rfl ?_
      refine XR_no rfl rfl ?_
      refine XR_no rfl rfl ?_
      refine XR_no rfl rfl ?_
      refine XR_no rfl rfl ?_
      refine XR_no rfl rfl ?_
      refine XR_no rfl rfl ?_
      refine XR_no rfl rfl ?_
      refine XR_a (op_pick_f rfl rfl) rfl rfl ?_
      refine XR_a (op_assign rfl) rfl rfl ?_
      refine XR_nil ?_
      refine X_else rfl ?_
      refine X_seq ?_
      have hnh : ¬ hitC ls (tval (bs.take n)) n := by rintro ⟨h1, h2⟩; omega
      rw [if_neg hnh] at hgo
      refine X_reg ?_
      refine XR_a (op_move rfl) rfl rfl ?_
      refine XR_a (op_move rfl) rfl rfl ?_
      refine XR_a (op_move rfl) rfl rfl ?_
      refine XR_wa (opl_call (over_spec (st.perm (List.Perm.swap _ _ _)) hok hn15 hlt) rfl (by kernel_rfl)) rfl rfl rfl ?_
      rintro _ _ ⟨rfl, rfl⟩
      refine XR_a (op_assign rfl) rfl rfl ?_
      refine XR_nil ?_
      refine X_cond rfl (fun h => ?_) (fun h => ?_)
      · rw [if_pos h] at hgo
        subst hgo
        refine X_seq ?_
        refine X_reg ?_
        refine XR_a (op_assign rfl) rfl rfl ?_
        refine XR_nil ?_
        refine X_exit rfl ?_
        refine X_seq ?_
        refine X_reg ?_
        refine XR_a (op_move rfl) rfl rfl ?_
        refine XR_a (op_assign rfl) rfl rfl ?_
        refine XR_a (op_assign rfl) rfl rfl ?_
        refine XR_nil ?_
        refine X_ret (.cons (.tmp rfl) (.cons (.tmp rfl) .nil)) ?_
        exact ⟨rfl, st⟩
      · rw [if_neg (by rw [h]; simp)] at hgo
        refine X_skip ?_
        refine X_blk ?_
        refine X_reg ?_
        refine XR_a (op_move rfl) rfl rfl ?_
        refine XR_a (op_move rfl) rfl rfl ?_
        refine XR_a (op_move rfl) rfl rfl ?_
        refine XR_a (op_nilCheck rfl) rfl rfl ?_
        first | refine XR_a (op_field0 rfl rfl) rfl rfl ?_ | refine XR_a (op_fieldn rfl rfl) rfl rfl ?_
        first | refine XR_a (op_indexA1 rfl rfl rfl (by omega)) rfl rfl ?_ | refine XR_a (op_indexO rfl rfl rfl (by omega)) rfl rfl ?_ | refine XR_a (op_indexA rfl rfl rfl (by omega)) rfl rfl ?_
        refine XR_a (op_ld (so.cell 0 (i := 18 + n) rfl ((codeC_m (fstTo_len _ _) (by rw [cnts_len]; omega)).trans (map_get_nV hgm))) rfl rfl rfl) rfl rfl ?_
        first | refine XR_a (op_addN rfl rfl (by simp only [inK]; omega)) rfl rfl ?_ | refine XR_a (op_addI rfl rfl (by simp only [inK]; omega)) rfl rfl ?_ | refine XR_a (op_add rfl rfl) rfl rfl ?_
        refine XR_as (.int .i64 ((orderTo ls (n + 1)).length : Nat)) (by rw [hon]) ?_
        refine XR_a (op_assign rfl) rfl rfl ?_
        refine XR_nil ?_
        refine X_blk ?_
        refine X_reg ?_
        refine XR_a (op_move rfl) rfl rfl ?_
        first | refine XR_a (op_addN (n := 1) rfl rfl (by simp only [inK]; omega)) rfl rfl ?_ | refine XR_a (op_addI rfl rfl (by simp only [inK]; omega)) rfl rfl ?_ | refine XR_a (op_add rfl rfl) rfl rfl ?_
        refine XR_a (op_assign rfl) rfl rfl ?_
        refine XR_nil ?_
        exact X_again (n + 1) (.cons rfl (.cons rfl (.cons rfl (.cons rfl (.cons rfl (.cons rfl (.cons rfl (.cons rfl (.nil _))))))))) ⟨rfl, by omega, by omega, by rw [hgo, show 17 - (n + 1) = g by omega]⟩ (by omega)
  · rw [takeGo_end (by omega)] at hgo
    subst hgo
    refine X_exit rfl ?_
    refine X_seq ?_
    refine X_reg ?_
    refine XR_a (op_move rfl) rfl rfl ?_
    refine XR_a (op_assign rfl) rfl rfl ?_
    refine XR_a (op_assign rfl) rfl rfl ?_
    refine XR_nil ?_
    refine X_ret (.cons (.tmp rfl) (.cons (.tmp rfl) .nil)) ?_
    exact ⟨rfl, st⟩

def errC (li : List Int) : Int := if rightC li then 0 else 13
theorem errC_zero {li : List Int} : errC li = 0 ↔ rightC li := by unfold errC; split <;> simp [*]
theorem St.behind {h0 hp h' : Heap} {r : Res} (hx : Ext h0 hp) (st : St hp.size hp h' [r]) : St h0.size h0 h' [r] := ((St.start h0).ext hx).join st
theorem cnew_spec {n c : Nat} {A : Option Addr} {li : List Int} {h0 : Heap} (hr : Rd h0 A (li.map iV)) (hl : li.length = n) (hn : n ≤ 17592186044416) :
    Ret Try.prog 89 [.slice A n c] h0 fun v h' =>
      ∃ w, v = retVal [w, .int .i64 (errC li)] ∧ Ext h0 h' ∧ (rightC li → ∃ p, w = .pointer (some ⟨p, 0, none⟩) ∧ St h0.size h0 h' [codeR p (li.map Int.toNat)]) ∧ (¬ rightC li → w = .pointer none) := by
  refine ret_of_X Try.func89 rfl rfl fun w0 hw0 => ?_
  simp only [argE, Nat.zero_add, Nat.reduceAdd]
  refine X_seq ?_
  refine X_reg ?_
  refine XR_a (op_assign rfl) rfl rfl ?_
  refine XR_a (op_assign rfl) rfl rfl ?_
  refine XR_nil ?_
  refine X_seq ?_
  refine X_seq ?_
  refine X_reg ?_
  refine XR_a (op_move rfl) rfl rfl ?_
  refine XR_wa (opl_call (cright_spec hr hl hn) rfl (by kernel_rfl)) rfl rfl rfl ?_
  rintro _ hp ⟨rfl, hx⟩
  first | refine XR_a (op_notd rfl) rfl rfl ?_ | refine XR_a (op_not rfl) rfl rfl ?_
  refine XR_nil ?_
  refine X_cond rfl (fun h => ?_) (fun h => ?_)
  · refine X_seq ?_
    refine X_reg ?_
    refine XR_a (op_assign rfl) rfl rfl ?_
    refine XR_a (op_assign rfl) rfl rfl ?_
    refine XR_nil ?_
    refine X_ret (.cons (.tmp rfl) (.cons (.tmp rfl) .nil)) ?_
    have hR : ¬ rightC li := by simpa using h
    exact ⟨_, by unfold errC; rw [if_neg hR], hx, fun hh => absurd hh hR, fun _ => rfl⟩
  · have hR : rightC li := by simpa using h
    have e := toNat_map fun x hx => (hR.2.1.2 x hx).1
    have hr2 : Rd h0 A ((li.map Int.toNat).map nV) := by rw [nV_iV, e]; exact hr
    refine X_skip ?_
    refine X_seq ?_
    refine X_reg ?_
    refine XR_a (op_move rfl) rfl rfl ?_
    refine XR_wa (opl_call (build_spec (ls := li.map Int.toNat) (hr2.ext hx) (by rw [List.length_map]; exact hl) hR.ok) rfl (by kernel_rfl)) rfl rfl rfl ?_
    rintro _ hp2 ⟨p, rfl, st⟩
    refine XR_a (op_assign rfl) rfl rfl ?_
    refine XR_a (op_assign rfl) rfl rfl ?_
    refine XR_nil ?_
    refine X_ret (.cons (.tmp rfl) (.cons (.tmp rfl) .nil)) ?_
    exact ⟨_, by unfold errC; rw [if_pos hR], hx.trans st.low, fun _ => ⟨p, rfl, St.behind hx st⟩, fun hh => absurd hR hh⟩
end Go.Bn
