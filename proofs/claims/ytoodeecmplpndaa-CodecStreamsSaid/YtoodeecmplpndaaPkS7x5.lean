/- Packed texts of a claim: what its theorem uses, joined. -/
import Derived.MapKept
import Derived.ProofKit
import Derived.OpenShut
import Derived.ShutString
import Derived.ChangeOld
import Derived.SizedLaws
import Derived.ChangeSlices
import Derived.Deep.Slices
import Derived.Test.YtoodeecmplpndaaPkS7x4
section
set_option linter.unusedVariables false
set_option linter.unusedSimpArgs false
set_option maxHeartbeats 4000000
set_option maxRecDepth 20000
namespace Go.Bn
open Go Proofs
def lenAt (ls : List Nat) (s : Int) : Nat := if s < 0 then 0 else ls.getD s.toNat 0
theorem lenAt_nat {ls : List Nat} {t : Nat} (h : t < ls.length) : lenAt ls (t : Int) = ls[t] := by
 unfold lenAt
 rw [if_neg (by omega), Int.toNat_natCast, getD_get h]
theorem lenAt_pos {ls : List Nat} {s : Int} (h : lenAt ls s ≠ 0) : ∃ t : Nat, s = t ∧ ∃ ht : t < ls.length, lenAt ls s = ls[t] := by
 unfold lenAt at h
 by_cases h1 : s < 0
 ·rw [if_pos h1] at h; exact absurd rfl h
 ·rw [if_neg h1] at h
  have h2 : s.toNat < ls.length := by
   rcases Nat.lt_or_ge s.toNat ls.length with h3 | h3
   ·exact h3
   ·rw [List.getD, List.getElem?_eq_none h3] at h; exact absurd rfl h
  exact ⟨s.toNat, by omega, h2, by unfold lenAt; rw [if_neg h1, getD_get h2]⟩
theorem lens_le {ls : List Nat} (hok : lensOK ls) (s : Int) : lenAt ls s ≤ 15 := by
 by_cases h : lenAt ls s = 0
 ·omega
 ·obtain ⟨t, _, ht, e⟩ := lenAt_pos h
  rw [e]; exact hok.2.2.1 _ (List.getElem_mem ht)
theorem clen_spec {B p : Nat} {s : Int} {ls : List Nat} {F : List Res} {hb h0 : Heap} (st : St B hb h0 (codeR p ls :: F)) (hn : ls.length ≤ 320) :
  Ret Try.prog 65 [.pointer (some ⟨p, 0, none⟩), .int .i64 s] h0 fun v h' => v = .int .i64 (lenAt ls s : Nat) ∧ h0 = h' := by
 obtain ⟨va, vb, vo, so⟩ := st.code
 obtain ⟨A, n, c, rfl, hlen, _, _, hrd⟩ := so.row 1 rfl
 rw [List.length_map] at hlen
 refine ret_of_X Try.func65 rfl rfl fun w0 hw0 => ?_
 simp only [argE, Nat.zero_add, Nat.reduceAdd]
 refine X_seq (X_reg (XA rfl rfl rfl (XR_nil (X_seq (X_seq (X_reg (XV rfl rfl rfl ?_)))))))
 refine XR_a (op_ptr_nil rfl rfl rfl) rfl rfl ?_
 refine XV rfl rfl rfl (XV rfl rfl rfl ?_)
 refine XR_a (op_lss rfl rfl) rfl rfl ?_
 refine XR_a (op_pick_f rfl rfl) rfl rfl (XV rfl rfl rfl ?_)
 refine XR_if 11 rfl (fun h => ?_) (fun h => ?_)
 ·refine XR_no rfl rfl (XR_no rfl rfl (XR_no rfl rfl (XR_no rfl rfl (XR_no rfl rfl (XR_no rfl rfl (XR_no rfl rfl (XR_a (op_pick_t rfl rfl) rfl rfl (XR_nil (X_then rfl ?_)))))))))
  refine X_seq (X_reg (XA rfl rfl rfl (XR_nil ?_)))
  refine X_ret (.cons (.tmp rfl) .nil) ?_
  unfold lenAt
  exact ⟨by rw [if_pos h]; rfl, rfl⟩
 ·refine XV rfl rfl rfl (XV rfl rfl rfl (XR_a (op_nilCheck rfl) rfl rfl ?_))
  first | refine XR_a (op_field0 rfl rfl) rfl rfl ?_ | refine XR_a (op_fieldn rfl rfl) rfl rfl ?_
  refine XR_a (op_ld (so.cell 0 (i := 0) rfl rfl) rfl rfl rfl) rfl rfl ?_
  refine XR_a (op_len rfl rfl rfl) rfl rfl ?_
  refine XR_a (op_geq rfl rfl) rfl rfl ?_
  refine XR_a (op_pick_f rfl rfl) rfl rfl (XR_nil ?_)
  refine X_if rfl (fun h => ?_) (fun h => ?_)
  ·refine X_seq (X_reg (XA rfl rfl rfl (XR_nil ?_)))
   refine X_ret (.cons (.tmp rfl) .nil) ?_
   unfold lenAt
   rename_i hs h
   exact ⟨by rw [if_neg (by omega), List.getD, List.getElem?_eq_none (by omega)]; rfl, rfl⟩
  ·obtain ⟨t, rfl⟩ : ∃ t : Nat, s = t := ⟨s.toNat, by omega⟩
   obtain ⟨gA, oA, rfl, hcA⟩ := hrd.at_ (by rw [List.length_map]; omega)
   have ht : t < ls.length := by omega
   refine X_skip (X_seq (X_reg (XV rfl rfl rfl (XR_a (op_nilCheck rfl) rfl rfl ?_))))
   first | refine XR_a (op_field0 rfl rfl) rfl rfl ?_ | refine XR_a (op_fieldn rfl rfl) rfl rfl ?_
   refine XR_a (op_ld (so.cell 0 (i := 0) rfl rfl) rfl rfl rfl) rfl rfl ?_
   refine XV rfl rfl rfl ?_
   first | refine XR_a (op_index1 rfl rfl rfl (by omega)) rfl rfl ?_ | refine XR_a (op_index rfl rfl rfl (by omega)) rfl rfl ?_
   refine XR_a (op_ld ((hcA t (nV ls[t]) (by simp [ht]))) rfl rfl rfl) rfl rfl ?_
   refine XA rfl rfl rfl (XR_nil ?_)
   refine X_ret (.cons (.tmp rfl) .nil) ?_
   exact ⟨by rw [lenAt_nat ht]; rfl, rfl⟩
theorem cput_spec {B p q : Nat} {s : Int} {ls : List Nat} {bs : List Bool} {F : List Res} {h0 : Heap} (st : St B h0 h0 (wrR q bs :: codeR p ls :: F)) (hok : lensOK ls) (hb : bs.length ≤ 1099511627000) :
  Ret Try.prog 41 [.pointer (some ⟨p, 0, none⟩), .pointer (some ⟨q, 0, none⟩), .int .i64 s] h0
   fun v h' => v = .bool (decide (lenAt ls s ≠ 0)) ∧ St B h0 h' (wrR q (bs ++ codeBits (val ls s.toNat) (lenAt ls s)) :: codeR p ls :: F) := by
 have hl15 := lens_le hok s
 refine ret_of_X Try.func41 rfl rfl fun w0 hw0 => ?_
 simp only [argE, Nat.zero_add, Nat.reduceAdd]
 refine X_seq (X_reg (XA rfl rfl rfl (XR_nil (X_seq (X_reg (XV rfl rfl rfl (XV rfl rfl rfl ?_)))))))
 refine XR_wa (opl_call (clen_spec (st.perm (List.Perm.swap _ _ _)) hok.2.1) rfl (by kernel_rfl)) rfl rfl rfl ?_
 rintro _ _ ⟨rfl, rfl⟩
 refine XA rfl rfl rfl (XR_nil (X_seq (X_seq (X_reg (XV rfl rfl rfl ?_)))))
 refine XR_a (op_eql rfl rfl) rfl rfl ?_
 refine XR_nil ?_
 refine X_if rfl (fun h => ?_) (fun h => ?_)
 ·refine X_seq (X_reg (XA rfl rfl rfl (XR_nil ?_)))
  refine X_ret (.cons (.tmp rfl) .nil) ?_
  have h0 : lenAt ls s = 0 := by omega
  rw [h0, codeBits, List.append_nil]
  exact ⟨rfl, st⟩
 ·have hn0 : lenAt ls s ≠ 0 := by omega
  obtain ⟨t, rfl, ht, hlt⟩ := lenAt_pos hn0
  rw [Int.toNat_natCast]
  have hv := val_lt hok ht (by omega)
  have hv2 := fst_bd hok (n := ls[t]) (by omega)
  obtain ⟨n, hn⟩ : ∃ n, lenAt ls (t : Int) = n := ⟨_, rfl⟩
  obtain ⟨v, hvv⟩ : ∃ v, val ls t = v := ⟨_, rfl⟩
  rw [hn] at hn0 hl15 hlt ⊢
  rw [hvv] at hv ⊢
  have hvl : (vals ls)[t]? = some v := by simp [vals, ht, hvv]
  refine X_skip (X_seq (X_seq (X_reg (XV rfl rfl rfl ?_))))
  first | refine XR_a (op_subN (n := 1) rfl rfl (by omega) (by simp only [inK]; omega)) rfl rfl ?_ | refine XR_a (op_subI rfl rfl (by simp only [inK]; omega)) rfl rfl ?_ | refine XR_a (op_sub rfl rfl) rfl rfl ?_
  refine XA rfl rfl rfl (XR_nil (X_block ?_))
  refine X_loop (fun k => k) (fun k => [(0, .pointer (some ⟨p, 0, none⟩)), (1, .pointer (some ⟨q, 0, none⟩)), (2, .int .i64 (t : Int)), (8, .int .i64 ((k : Int) - 1))])
   (fun (k : Nat) hp => St B h0 hp (wrR q (bs ++ codeBits (v / 2 ^ k) (n - k)) :: codeR p ls :: F) ∧ k ≤ n)
   n (.cons rfl (.cons rfl (.cons rfl (.cons (congrArg (fun x : Int => some (Value.int .i64 x)) (by omega)) (.nil _))))) ⟨by rw [Nat.sub_self, codeBits, List.append_nil]; exact st, Nat.le_refl _⟩ ?_
  clear st
  rintro k hp ⟨st, hk⟩
  refine X_seq (X_seq (X_reg (XV rfl rfl rfl ?_)))
  refine XR_a (op_geq rfl rfl) rfl rfl ?_
  refine XR_nil ?_
  refine X_if rfl (fun h => ?_) (fun h => ?_)
  ·obtain ⟨j, rfl⟩ : ∃ j, k = j + 1 := ⟨k - 1, by omega⟩
   obtain ⟨va, vb, vo, so⟩ := (st.perm (List.Perm.swap _ _ _)).code
   obtain ⟨A, m, c, rfl, hlen, _, _, hrd⟩ := so.row 2 rfl
   obtain ⟨gA, oA, rfl, hcA⟩ := hrd.at_ (by rw [List.length_map, vals_length]; omega)
   rw [List.length_map, vals_length] at hlen
   have hci := hcA t (nV v) (map_get_nV hvl)
   have hyl : v / 2 ^ j ≤ 32768 := Nat.le_trans (Nat.div_le_self v (2 ^ j)) (by omega)
   obtain ⟨y, hy⟩ : ∃ y, v / 2 ^ j = y := ⟨_, rfl⟩
   rw [hy] at hyl
   have hln : (bs ++ codeBits (v / 2 ^ (j + 1)) (n - (j + 1))).length ≤ 1099511627776 := by rw [List.length_append, codeBits_length]; omega
   refine X_skip (X_seq (X_block (X_reg (XV rfl rfl rfl (XV rfl rfl rfl (XR_a (op_nilCheck rfl) rfl rfl ?_))))))
   first | refine XR_a (op_field0 rfl rfl) rfl rfl ?_ | refine XR_a (op_fieldn rfl rfl) rfl rfl ?_
   refine XR_a (op_ld (so.cell 0 (i := 1) rfl rfl) rfl rfl rfl) rfl rfl ?_
   refine XV rfl rfl rfl ?_
   first | refine XR_a (op_index1 rfl rfl rfl (by omega)) rfl rfl ?_ | refine XR_a (op_index rfl rfl rfl (by omega)) rfl rfl ?_
   refine XR_a (op_ld (hci) rfl rfl rfl) rfl rfl ?_
   refine XV rfl rfl rfl ?_
   refine XR_as (.int .i64 (j : Int)) (congrArg (Value.int .i64) (by omega)) ?_
   refine XR_a (op_shrC (m := v) j rfl rfl (by simp only [IntKind.bits]; omega)) rfl rfl ?_
   refine XR_as (.int .i64 (y : Int)) (by rw [hy]) ?_
   refine XR_a (op_andS (m := y) (n := 1) rfl rfl (by simp only [inK]; omega) (by simp [inK])) rfl rfl ?_
   refine XR_as (.int .i64 ((y % 2 : Nat) : Int)) (by rw [Nat.and_one_is_mod]) ?_
   refine XR_a (op_convI (k' := .u32) rfl rfl (by simp only [inK]; omega)) rfl rfl ?_
   refine XR_wa (opl_call (put_spec (n := y % 2) (k := 1) st.here (by omega) hln) rfl (by kernel_rfl)) rfl rfl rfl ?_
   rintro _ hp ⟨rfl, st2⟩
   replace st := st.trans st2
   refine XR_nil (X_blk (X_reg (XV rfl rfl rfl ?_)))
   first | refine XR_a (op_subN (n := 1) rfl rfl (by omega) (by simp only [inK]; omega)) rfl rfl ?_ | refine XR_a (op_subI rfl rfl (by simp only [inK]; omega)) rfl rfl ?_ | refine XR_a (op_sub rfl rfl) rfl rfl ?_
   refine XR_as (.int .i64 ((j : Int) - 1)) (congrArg (Value.int .i64) (by omega)) ?_
   refine XA rfl rfl rfl (XR_nil ?_)
   refine X_again j (.cons rfl (.cons rfl (.cons rfl (.cons rfl (.nil _))))) ⟨?_, by omega⟩ (by omega)
   rw [show wd 32 1 = 1 from rfl, bitsN, bitsN, List.append_assoc] at st
   rw [show n - j = (n - (j + 1)) + 1 by omega, codeBits, Nat.div_div_eq_div_mul, ← Nat.pow_succ, hy]
   rw [show (y % 2 % 2 == 1) = (y % 2 == 1) by rw [Nat.mod_mod]] at st
   exact st
  ·refine X_exit rfl (X_seq (X_reg (XA rfl rfl rfl (XR_nil ?_))))
   refine X_ret (.cons (.tmp rfl) .nil) ?_
   obtain rfl : k = 0 := by omega
   rw [Nat.pow_zero, Nat.div_one] at st
   exact ⟨by rw [decide_eq_true hn0]; rfl, st⟩
theorem over_spec {B p v n : Nat} {ls : List Nat} {F : List Res} {hb h0 : Heap} (st : St B hb h0 (codeR p ls :: F)) (hok : lensOK ls) (hn : n ≤ 15) (hv : v < 2 ^ n) :
  Ret Try.prog 124 [.pointer (some ⟨p, 0, none⟩), .int .i64 (v : Int), .int .i64 (n : Int)] h0 fun w h' => w = .bool (overB ls v n) ∧ h0 = h' := by
 obtain ⟨va, vb, vo, so⟩ := st.code
 refine ret_of_X Try.func124 rfl rfl fun w0 hw0 => ?_
 simp only [argE, Nat.zero_add, Nat.reduceAdd]
 refine X_seq (X_reg (XA rfl rfl rfl (XR_nil (X_seq (X_seq (X_reg (XV rfl rfl rfl ?_)))))))
 first | refine XR_a (op_addN (n := 1) rfl rfl (by simp only [inK]; omega)) rfl rfl ?_ | refine XR_a (op_addI rfl rfl (by simp only [inK]; omega)) rfl rfl ?_ | refine XR_a (op_add rfl rfl) rfl rfl ?_
 refine XA rfl rfl rfl (XR_nil (X_block ?_))
 refine X_loop (fun k => 17 - k) (fun k => [(0, .pointer (some ⟨p, 0, none⟩)), (1, .int .i64 (v : Int)), (2, .int .i64 (n : Int)), (7, .int .i64 (k : Int))])
  (fun (k : Nat) hp => hp = h0 ∧ n < k ∧ k ≤ 16 ∧ ∀ j, n < j → j < k → ¬ beginC ls v n j)
  (n + 1) (.cons rfl (.cons rfl (.cons rfl (.cons rfl (.nil _))))) ⟨rfl, by omega, by omega, fun j h1 h2 => by omega⟩ ?_
 rintro k hp ⟨rfl, hk1, hk2, hno⟩
 refine X_seq (X_seq (X_reg (XV rfl rfl rfl ?_)))
 refine XR_a (op_leq rfl rfl) rfl rfl ?_
 refine XR_nil ?_
 refine X_if rfl (fun h => ?_) (fun h => ?_)
 ·have hk : k ≤ 15 := by omega
  have hbd := fst_bd hok hk
  have hpk : 2 ^ n * 2 ^ (k - n) = 2 ^ k := by rw [← Nat.pow_add, show n + (k - n) = k by omega]
  have hpk2 : 2 ^ k ≤ 32768 := Nat.pow_le_pow_right (n := 2) (by omega) hk
  have hpos : 0 < 2 ^ (k - n) := Nat.pow_pos (by omega)
  have hv1 : (v + 1) * 2 ^ (k - n) ≤ 32768 := Nat.le_trans (Nat.mul_le_mul_right _ hv) (by omega)
  have hv0 : v * 2 ^ (k - n) ≤ 32768 := Nat.le_trans (Nat.mul_le_mul_right _ (by omega)) hv1
  have hgm : (cnts ls)[k]? = some (cn ls k) := by simp [cnts, show k < 16 by omega]
  have hgf : (fstTo ls 16)[k]? = some (fst ls k) := by simp [fstTo, show k < 16 by omega]
  have hvn : v < 32768 := Nat.lt_of_lt_of_le hv (Nat.pow_le_pow_right (n := 2) (by omega) hn)
  refine X_skip (X_seq (X_block (X_seq ?_)))
  refine X_draw (butAt [(6, .pure), (9, .pure), (10, .pure)]) (by kernel_rfl) (by kernel_rfl) ?_
  refine XV rfl rfl rfl (XV rfl rfl rfl (XV rfl rfl rfl ?_))
  refine XR_a (op_subN (m := k) (n := n) rfl rfl (by omega) (by simp only [inK]; omega)) rfl rfl ?_
  refine XR_a (op_shlC (m := v) (k - n) rfl rfl (by simp only [IntKind.bits]; omega) (by simp only [inK]; omega)) rfl rfl ?_
  refine XV rfl rfl rfl ?_
  first | refine XR_a (op_addN (n := 1) rfl rfl (by simp only [inK]; omega)) rfl rfl ?_ | refine XR_a (op_addI rfl rfl (by simp only [inK]; omega)) rfl rfl ?_ | refine XR_a (op_add rfl rfl) rfl rfl ?_
  refine XR_as (.int .i64 ((v + 1 : Nat) : Int)) rfl ?_
  refine XV rfl rfl rfl (XV rfl rfl rfl ?_)
  refine XR_a (op_subN (m := k) (n := n) rfl rfl (by omega) (by simp only [inK]; omega)) rfl rfl ?_
  refine XR_a (op_shlC (m := v + 1) (k - n) rfl rfl (by simp only [IntKind.bits]; omega) (by simp only [inK]; omega)) rfl rfl ?_
  refine XA rfl rfl rfl (XA rfl rfl rfl (XR_nil (X_seq ?_)))
  refine X_draw byKind (by kernel_rfl) (by kernel_rfl) ?_
  refine XV rfl rfl rfl (XV rfl rfl rfl (XR_a (op_nilCheck rfl) rfl rfl ?_))
  first | refine XR_a (op_field0 rfl rfl) rfl rfl ?_ | refine XR_a (op_fieldn rfl rfl) rfl rfl ?_
  first | refine XR_a (op_indexA1 rfl rfl rfl (by omega)) rfl rfl ?_ | refine XR_a (op_indexO rfl rfl rfl (by omega)) rfl rfl ?_ | refine XR_a (op_indexA rfl rfl rfl (by omega)) rfl rfl ?_
  refine XR_a (op_ld (so.cell 0 (i := 18 + k) rfl ((codeC_m (fstTo_len _ _) (by rw [cnts_len]; omega)).trans (map_get_nV hgm))) rfl rfl rfl) rfl rfl ?_
  refine XR_a (op_gtr rfl rfl) rfl rfl ?_
  refine XV rfl rfl rfl ?_
  refine XR_if 34 rfl (fun h => ?_) (fun h => ?_)
  ·refine XV rfl rfl rfl (XV rfl rfl rfl (XR_a (op_nilCheck rfl) rfl rfl ?_))
   first | refine XR_a (op_field0 rfl rfl) rfl rfl ?_ | refine XR_a (op_fieldn rfl rfl) rfl rfl ?_
   first | refine XR_a (op_indexA1 rfl rfl rfl (by omega)) rfl rfl ?_ | refine XR_a (op_indexO rfl rfl rfl (by omega)) rfl rfl ?_ | refine XR_a (op_indexA rfl rfl rfl (by omega)) rfl rfl ?_
   refine XR_a (op_ld (so.cell 0 (i := 2 + k) rfl ((codeC_f (by rw [fstTo_len]; omega)).trans (map_get_nV hgf))) rfl rfl rfl) rfl rfl ?_
   refine XV rfl rfl rfl ?_
   refine XR_a (op_lss rfl rfl) rfl rfl ?_
   refine XR_a (op_pick_t rfl rfl) rfl rfl (XV rfl rfl rfl ?_)
   refine XR_if 44 rfl (fun h => ?_) (fun h => ?_)
   ·refine XV rfl rfl rfl (XV rfl rfl rfl (XR_a (op_nilCheck rfl) rfl rfl ?_))
    first | refine XR_a (op_field0 rfl rfl) rfl rfl ?_ | refine XR_a (op_fieldn rfl rfl) rfl rfl ?_
    first | refine XR_a (op_indexA1 rfl rfl rfl (by omega)) rfl rfl ?_ | refine XR_a (op_indexO rfl rfl rfl (by omega)) rfl rfl ?_ | refine XR_a (op_indexA rfl rfl rfl (by omega)) rfl rfl ?_
    refine XR_a (op_ld (so.cell 0 (i := 2 + k) rfl ((codeC_f (by rw [fstTo_len]; omega)).trans (map_get_nV hgf))) rfl rfl rfl) rfl rfl ?_
    refine XV rfl rfl rfl (XV rfl rfl rfl (XR_a (op_nilCheck rfl) rfl rfl ?_))
    first | refine XR_a (op_field0 rfl rfl) rfl rfl ?_ | refine XR_a (op_fieldn rfl rfl) rfl rfl ?_
    first | refine XR_a (op_indexA1 rfl rfl rfl (by omega)) rfl rfl ?_ | refine XR_a (op_indexO rfl rfl rfl (by omega)) rfl rfl ?_ | refine XR_a (op_indexA rfl rfl rfl (by omega)) rfl rfl ?_
    refine XR_a (op_ld (so.cell 0 (i := 18 + k) rfl ((codeC_m (fstTo_len _ _) (by rw [cnts_len]; omega)).trans (map_get_nV hgm))) rfl rfl rfl) rfl rfl ?_
    first | refine XR_a (op_addN rfl rfl (by simp only [inK]; omega)) rfl rfl ?_ | refine XR_a (op_addI rfl rfl (by simp only [inK]; omega)) rfl rfl ?_ | refine XR_a (op_add rfl rfl) rfl rfl ?_
    refine XV rfl rfl rfl ?_
    refine XR_a (op_gtr rfl rfl) rfl rfl ?_
    refine XR_a (op_pick_t rfl rfl) rfl rfl (XR_nil ?_)
    refine X_if rfl (fun h => ?_) (fun h => ?_)
    ·refine X_seq (X_reg (XA rfl rfl rfl (XR_nil ?_)))
     refine X_ret (.cons (.tmp rfl) .nil) ?_
     have hbg : beginC ls v n k := ⟨by omega, by omega, by omega⟩
     refine ⟨congrArg Value.bool (Eq.symm ?_), rfl⟩
     exact Bool.eq_false_iff.2 fun hh => overB_iff.1 hh k hk1 (by omega) hbg
    ·refine X_skip (X_blk (X_reg (XV rfl rfl rfl ?_)))
     first | refine XR_a (op_addN (n := 1) rfl rfl (by simp only [inK]; omega)) rfl rfl ?_ | refine XR_a (op_addI rfl rfl (by simp only [inK]; omega)) rfl rfl ?_ | refine XR_a (op_add rfl rfl) rfl rfl ?_
     refine XA rfl rfl rfl (XR_nil ?_)
     exact X_again (k + 1) (.cons rfl (.cons rfl (.cons rfl (.cons rfl (.nil _))))) ⟨rfl, by omega, by omega, fun j h1 h2 => by
      rcases Nat.lt_or_ge j k with h3 | h3
      ·exact hno j h1 h3
      ·obtain rfl : j = k := by omega
       rintro ⟨b1, b2, b3⟩; omega⟩ (by omega)
   ·refine XR_no rfl rfl (XR_no rfl rfl (XR_no rfl rfl (XR_no rfl rfl (XR_no rfl rfl (XR_no rfl rfl (XR_no rfl rfl (XR_no rfl rfl (XR_no rfl rfl (XR_no rfl rfl ?_)))))))))
    refine XR_no rfl rfl (XR_no rfl rfl (XR_no rfl rfl (XR_no rfl rfl (XR_no rfl rfl (XR_a (op_pick_f rfl rfl) rfl rfl (XR_nil (X_else rfl (X_skip (X_blk ?_)))))))))
    refine X_reg (XV rfl rfl rfl ?_)
    first | refine XR_a (op_addN (n := 1) rfl rfl (by simp only [inK]; omega)) rfl rfl ?_ | refine XR_a (op_addI rfl rfl (by simp only [inK]; omega)) rfl rfl ?_ | refine XR_a (op_add rfl rfl) rfl rfl ?_
    refine XA rfl rfl rfl (XR_nil ?_)
    exact X_again (k + 1) (.cons rfl (.cons rfl (.cons rfl (.cons rfl (.nil _))))) ⟨rfl, by omega, by omega, fun j h1 h2 => by
     rcases Nat.lt_or_ge j k with h3 | h3
     ·exact hno j h1 h3
     ·obtain rfl : j = k := by omega
      rintro ⟨b1, b2, b3⟩; omega⟩ (by omega)
  ·refine XR_no rfl rfl (XR_no rfl rfl (XR_no rfl rfl (XR_no rfl rfl (XR_no rfl rfl (XR_no rfl rfl (XR_no rfl rfl (XR_no rfl rfl (XR_a (op_pick_f rfl rfl) rfl rfl (XV rfl rfl rfl ?_)))))))))
   refine XR_no rfl rfl (XR_no rfl rfl (XR_no rfl rfl (XR_no rfl rfl (XR_no rfl rfl (XR_no rfl rfl (XR_no rfl rfl (XR_no rfl rfl (XR_no rfl rfl (XR_no rfl rfl ?_)))))))))
   refine XR_no rfl rfl (XR_no rfl rfl (XR_no rfl rfl (XR_no rfl rfl (XR_no rfl rfl (XR_a (op_pick_f rfl rfl) rfl rfl (XR_nil (X_else rfl (X_skip (X_blk ?_)))))))))
   refine X_reg (XV rfl rfl rfl ?_)
   first | refine XR_a (op_addN (n := 1) rfl rfl (by simp only [inK]; omega)) rfl rfl ?_ | refine XR_a (op_addI rfl rfl (by simp only [inK]; omega)) rfl rfl ?_ | refine XR_a (op_add rfl rfl) rfl rfl ?_
   refine XA rfl rfl rfl (XR_nil ?_)
   exact X_again (k + 1) (.cons rfl (.cons rfl (.cons rfl (.cons rfl (.nil _))))) ⟨rfl, by omega, by omega, fun j h1 h2 => by
    rcases Nat.lt_or_ge j k with h3 | h3
    ·exact hno j h1 h3
    ·obtain rfl : j = k := by omega
     rintro ⟨b1, b2, b3⟩; omega⟩ (by omega)
 ·refine X_exit rfl (X_seq (X_reg (XA rfl rfl rfl (XR_nil ?_))))
  refine X_ret (.cons (.tmp rfl) .nil) ?_
  exact ⟨congrArg Value.bool (overB_iff.2 fun j h1 h2 => hno j h1 (by omega)).symm, rfl⟩
theorem numB_bit (bs : List Bool) (a j : Nat) (hj : j < 15) (h : j < (bs.drop a).length) : numB bs a 15 / 2 ^ j % 2 = ((bs.drop a)[j]).toNat := by
 unfold numB
 rw [← valB_drop, List.drop_take, List.drop_eq_getElem_cons h, show 15 - j = (14 - j) + 1 by omega, List.take_succ_cons, valB]
 have : ((bs.drop a)[j]).toNat ≤ 1 := Bool.toNat_le _
 omega
theorem order_at {ls : List Nat} {n j : Nat} (h1 : 1 ≤ n) (h2 : n ≤ 15) (hj : j < cn ls n) : (orderTo ls 16)[(orderTo ls n).length + j]? = some (symAt ls n j) := by
 have hlen : (ofLen ls n ls.length).length = cn ls n := by rw [ofLen_length ls n _ (Nat.le_refl _), List.take_length, cn_pos ls (by omega)]
 have key : ∀ d, n + 1 + d ≤ 16 → ∃ r, orderTo ls (n + 1 + d) = orderTo ls n ++ ofLen ls n ls.length ++ r := by
  intro d
  induction d with
  | zero => intro _; exact ⟨[], by rw [Nat.add_zero, orderTo_succ ls h1, List.append_nil]⟩
  | succ d ih =>
   intro hd
   obtain ⟨r, hr⟩ := ih (by omega)
   exact ⟨r ++ ofLen ls (n + 1 + d) ls.length, by rw [← Nat.add_assoc, orderTo_succ ls (by omega), hr, List.append_assoc (_ ++ _)]⟩
 obtain ⟨r, hr⟩ := key (15 - n) (by omega)
 rw [show n + 1 + (15 - n) = 16 by omega] at hr
 rw [hr, List.append_assoc, List.getElem?_append_right (by omega), Nat.add_sub_cancel_left, List.getElem?_append_left (by omega)]
 unfold symAt
 rw [List.getD, List.getElem?_eq_getElem (by omega)]; rfl
theorem order_len {ls : List Nat} {n : Nat} (h1 : 1 ≤ n) : (orderTo ls (n + 1)).length = (orderTo ls n).length + cn ls n := by
 rw [orderTo_succ ls h1, List.length_append, ofLen_length ls n _ (Nat.le_refl _), List.take_length, cn_pos ls (by omega)]
theorem ctake_spec {B p q m c a : Nat} {A : Option Addr} {l : List UInt8} {ls : List Nat} {F : List Res} {h0 : Heap} (st : St B h0 h0 (rdG q A m c a :: codeR p ls :: F)) (hok : lensOK ls)
  (hr : Rd h0 A (l.map byteV)) (hl : l.length = m) (hm : m ≤ 1099511627776) (ha : a ≤ 8 * m) :
  Ret Try.prog 93 [.pointer (some ⟨p, 0, none⟩), .pointer (some ⟨q, 0, none⟩)] h0
   fun v h' => v = retVal [.int .i64 ((takeC ls ((bitsB l).drop a)).1 : Nat), .int .i64 ((takeC ls ((bitsB l).drop a)).2.2 : Nat)] ∧ St B h0 h' (rdG q A m c (a + (takeC ls ((bitsB l).drop a)).2.1) :: codeR p ls :: F) := by
 have hbl : ((bitsB l).drop a).length = 8 * m - a := by rw [List.length_drop, bitsB_length, hl]
 have htk : takeC ls ((bitsB l).drop a) = takeGo ls ((bitsB l).drop a) (min (8 * m - a) 15) 16 1 := by unfold takeC; rw [hbl]
 have hbit := numB_bit (bitsB l) a
 have hnum := numB_lt (bitsB l) a 15
 obtain ⟨bs, hbs⟩ : ∃ bs, (bitsB l).drop a = bs := ⟨_, rfl⟩
 rw [hbs] at hbl htk hbit ⊢
 obtain ⟨T, hT⟩ : ∃ T, takeC ls bs = T := ⟨_, rfl⟩
 rw [hT] at htk ⊢
 obtain ⟨lf, hlf⟩ : ∃ lf, min (8 * m - a) 15 = lf := ⟨_, rfl⟩
 rw [hlf] at htk
 obtain ⟨va, vb, vo, so⟩ := (st.perm (List.Perm.swap _ _ _)).code
 have hob : ∀ n, 1 ≤ n → (orderTo ls (n + 1)).length = (orderTo ls n).length + cn ls n := fun n h => order_len h
 have hol : ∀ n, 1 ≤ n → n ≤ 16 → (orderTo ls n).length ≤ 4800 := by
  intro n h1 h2
  obtain ⟨k, rfl⟩ : ∃ k, n = k + 1 := ⟨n - 1, by omega⟩
  have := orderTo_le ls k
  have := Nat.mul_le_mul (show k ≤ 15 by omega) hok.2.1
  omega
 refine ret_of_X Try.func93 rfl rfl fun w0 hw0 => ?_
 simp only [argE, Nat.zero_add, Nat.reduceAdd]
 refine X_seq (X_reg (XA rfl rfl rfl (XA rfl rfl rfl (XR_nil ?_))))
 refine X_scope rfl (fun _ _ _ hh => hh) ?_
 refine X_seq (X_seq (X_reg (XV rfl rfl rfl ?_)))
 refine XR_a (op_ptr_nil rfl rfl rfl) rfl rfl ?_
 refine XV rfl rfl rfl (XV rfl rfl rfl ?_)
 refine XR_a (op_ptr_nil rfl rfl rfl) rfl rfl ?_
 refine XR_a (op_pick_f rfl rfl) rfl rfl (XR_nil (X_else rfl (X_skip (X_seq (X_reg (XV rfl rfl rfl ?_))))))
 refine XR_wa (opl_call (rleft_spec (st.cell 0 rfl rfl) (st.cell 0 rfl rfl) hm ha) rfl (by kernel_rfl)) rfl rfl rfl ?_
 rintro _ _ ⟨rfl, rfl⟩
 refine XR_a (op_min2 rfl rfl) rfl rfl ?_
 refine XR_as (.int .i64 (lf : Int)) (congrArg (Value.int .i64) (by omega)) ?_
 refine XA rfl rfl rfl (XR_nil (X_seq (X_reg (XV rfl rfl rfl ?_))))
 refine XR_wa (opl_call (rpeek_spec (k := 15) (st.cell 0 rfl rfl) (st.cell 0 rfl rfl) hr hl hm ha) rfl (by kernel_rfl)) rfl rfl rfl ?_
 rintro _ _ ⟨rfl, rfl⟩
 refine XA rfl rfl rfl (XR_nil (X_seq (X_reg (XA rfl rfl rfl (XR_nil (X_seq (X_reg (XA rfl rfl rfl (XA rfl rfl rfl ?_)))))))))
 refine XR_nil (X_seq ?_)
 refine X_label ?_
 refine X_seq (X_seq (X_reg (XA rfl rfl rfl (XR_nil (X_block ?_)))))
 refine X_loop (fun n => 17 - n) (fun n => [(0, .pointer (some ⟨p, 0, none⟩)), (1, .pointer (some ⟨q, 0, none⟩)), (6, .int .i64 (lf : Int)), (7, .int .u32 (numB (bitsB l) a 15 : Nat)), (8, .int .i64 2), (9, .int .i64 (tval (bs.take (n - 1)) : Nat)), (10, .int .i64 ((orderTo ls n).length : Nat)), (11, .int .i64 (n : Int))])
  (fun (n : Nat) hp => hp = h0 ∧ 1 ≤ n ∧ n ≤ lf + 1 ∧ T = takeGo ls bs lf (17 - n) n)
  1 (.cons rfl (.cons rfl (.cons rfl (.cons rfl (.cons rfl (.cons rfl (.cons rfl (.cons rfl (.nil _))))))))) ⟨rfl, by omega, by omega, htk⟩ ?_
 rintro n hp ⟨rfl, hn1, hn2, hgo⟩
 refine X_seq (X_seq (X_reg (XV rfl rfl rfl (XV rfl rfl rfl ?_))))
 refine XR_a (op_leq rfl rfl) rfl rfl ?_
 refine XR_nil ?_
 refine X_if rfl (fun h => ?_) (fun h => ?_)
 ·have hnl : n ≤ lf := by omega
  have hn15 : n ≤ 15 := by omega
  have hbd := fst_bd hok hn15
  have hgm : (cnts ls)[n]? = some (cn ls n) := by simp [cnts, show n < 16 by omega]
  have hgf : (fstTo ls 16)[n]? = some (fst ls n) := by simp [fstTo, show n < 16 by omega]
  have hb := hbit (n - 1) (by omega) (by omega)
  have hyl : numB (bitsB l) a 15 / 2 ^ (n - 1) ≤ 32768 := Nat.le_trans (Nat.div_le_self _ _) (by omega)
  obtain ⟨y, hy⟩ : ∃ y, numB (bitsB l) a 15 / 2 ^ (n - 1) = y := ⟨_, rfl⟩
  rw [hy] at hyl hb
  have htv : tval (bs.take n) = tval (bs.take (n - 1)) * 2 + (bs[n - 1]'(by omega)).toNat := by
   have := tval_take_succ bs (n := n - 1) (by omega)
   rwa [show n - 1 + 1 = n by omega] at this
  have hlt := tval_lt bs n
  have hlt2 : 2 ^ n ≤ 32768 := Nat.pow_le_pow_right (n := 2) (by omega) hn15
  obtain ⟨g, hg⟩ : ∃ g, 17 - n = g + 1 := ⟨16 - n, by omega⟩
  rw [hg, takeGo, if_neg (by omega)] at hgo
  have hon := hob n hn1
  have holn := hol n hn1 (by omega)
  refine X_skip (X_seq (X_block (X_seq (X_reg (XV rfl rfl rfl ?_)))))
  refine XR_a (op_mulN (m := tval (bs.take (n - 1))) (n := 2) rfl rfl (by simp only [inK]; omega)) rfl rfl ?_
  refine XV rfl rfl rfl (XV rfl rfl rfl ?_)
  refine XR_a (op_subN (m := n) (n := 1) rfl rfl (by omega) (by simp only [inK]; omega)) rfl rfl ?_
  refine XR_a (op_shrC (m := numB (bitsB l) a 15) (n - 1) rfl rfl (by simp only [IntKind.bits]; omega)) rfl rfl ?_
  refine XR_as (.int .u32 (y : Int)) (by rw [hy]) ?_
  refine XR_a (op_andS (m := y) (n := 1) rfl rfl (by simp only [inK]; omega) (by simp [inK])) rfl rfl ?_
  refine XR_as (.int .u32 (((bs[n - 1]'(by omega)).toNat : Nat) : Int)) (by rw [Nat.and_one_is_mod, ← hb]) ?_
  refine XR_a (op_convI (k' := .i64) rfl rfl (by have : (bs[n - 1]'(by omega)).toNat ≤ 1 := Bool.toNat_le _; simp only [inK]; omega)) rfl rfl ?_
  refine XR_a (op_addN (m := tval (bs.take (n - 1)) * 2) (n := (bs[n - 1]'(by omega)).toNat) rfl rfl (by simp only [inK]; omega)) rfl rfl ?_
  refine XR_as (.int .i64 ((tval (bs.take n) : Nat) : Int)) (by rw [htv]) ?_
  refine XA rfl rfl rfl (XR_nil (X_seq (X_seq (X_reg (XV rfl rfl rfl (XV rfl rfl rfl (XV rfl rfl rfl (XR_a (op_nilCheck rfl) rfl rfl ?_))))))))
  first | refine XR_a (op_field0 rfl rfl) rfl rfl ?_ | refine XR_a (op_fieldn rfl rfl) rfl rfl ?_
  first | refine XR_a (op_indexA1 rfl rfl rfl (by omega)) rfl rfl ?_ | refine XR_a (op_indexO rfl rfl rfl (by omega)) rfl rfl ?_ | refine XR_a (op_indexA rfl rfl rfl (by omega)) rfl rfl ?_
  refine XR_a (op_ld (so.cell 0 (i := 2 + n) rfl ((codeC_f (by rw [fstTo_len]; omega)).trans (map_get_nV hgf))) rfl rfl rfl) rfl rfl ?_
  first | refine XR_a (op_subN rfl rfl (by omega) (by simp only [inK]; omega)) rfl rfl ?_ | refine XR_a (op_subI rfl rfl (by simp only [inK]; omega)) rfl rfl ?_ | refine XR_a (op_sub rfl rfl) rfl rfl ?_
  refine XA rfl rfl rfl (XR_nil (X_block (X_seq (X_reg (XV rfl rfl rfl ?_)))))
  refine XR_a (op_geq rfl rfl) rfl rfl ?_
  refine XV rfl rfl rfl ?_
  refine XR_if 49 rfl (fun h => ?_) (fun h => ?_)
  ·refine XV rfl rfl rfl (XV rfl rfl rfl (XV rfl rfl rfl (XR_a (op_nilCheck rfl) rfl rfl ?_)))
   first | refine XR_a (op_field0 rfl rfl) rfl rfl ?_ | refine XR_a (op_fieldn rfl rfl) rfl rfl ?_
   first | refine XR_a (op_indexA1 rfl rfl rfl (by omega)) rfl rfl ?_ | refine XR_a (op_indexO rfl rfl rfl (by omega)) rfl rfl ?_ | refine XR_a (op_indexA rfl rfl rfl (by omega)) rfl rfl ?_
   refine XR_a (op_ld (so.cell 0 (i := 18 + n) rfl ((codeC_m (fstTo_len _ _) (by rw [cnts_len]; omega)).trans (map_get_nV hgm))) rfl rfl rfl) rfl rfl ?_
   refine XR_a (op_lss rfl rfl) rfl rfl ?_
   refine XR_a (op_pick_t rfl rfl) rfl rfl (XA rfl rfl rfl (XR_nil ?_))
   refine X_if rfl (fun h => ?_) (fun h => ?_)
   ·have hhit : hitC ls (tval (bs.take n)) n := ⟨by omega, by omega⟩
    rw [if_pos hhit] at hgo
    subst hgo
    have hwd : wd 32 (n : Int) = n := by unfold wd; omega
    refine X_seq (X_reg (XV rfl rfl rfl (XV rfl rfl rfl ?_)))
    refine XR_wa (opl_call (rskip_spec (k := (n : Int)) st hm ha) rfl (by kernel_rfl)) rfl rfl rfl ?_
    rintro _ hp ⟨_, st⟩
    rw [hwd, if_pos (by omega)] at st
    obtain ⟨va, vb, vo, so⟩ := (st.perm (List.Perm.swap _ _ _)).code
    obtain ⟨A4, n4, c4, rfl, hlen4, _, _, hrd4⟩ := so.row 3 rfl
    have hoa := order_at (ls := ls) (n := n) (j := tval (bs.take n) - fst ls n) hn1 hn15 (by omega)
    have hol4 := (List.getElem?_eq_some_iff.1 hoa).1
    rw [List.length_map] at hlen4
    obtain ⟨g4, o4, rfl, hcA⟩ := hrd4.at_ (by rw [List.length_map]; omega)
    refine XR_nil (X_seq (X_reg (XV rfl rfl rfl (XR_a (op_nilCheck rfl) rfl rfl ?_))))
    first | refine XR_a (op_field0 rfl rfl) rfl rfl ?_ | refine XR_a (op_fieldn rfl rfl) rfl rfl ?_
    refine XR_a (op_ld (so.cell 0 (i := 34) rfl (codeC_o (fstTo_len _ _) (cnts_len _))) rfl rfl rfl) rfl rfl ?_
    refine XV rfl rfl rfl (XV rfl rfl rfl ?_)
    first | refine XR_a (op_addN rfl rfl (by simp only [inK]; omega)) rfl rfl ?_ | refine XR_a (op_addI rfl rfl (by simp only [inK]; omega)) rfl rfl ?_ | refine XR_a (op_add rfl rfl) rfl rfl ?_
    refine XR_as (.int .i64 (((orderTo ls n).length + (tval (bs.take n) - fst ls n) : Nat) : Int)) (congrArg (Value.int .i64) (by omega)) ?_
    first | refine XR_a (op_index1 rfl rfl rfl (by omega)) rfl rfl ?_ | refine XR_a (op_index rfl rfl rfl (by omega)) rfl rfl ?_
    refine XR_a (op_ld (hcA _ _ (map_get_nV hoa)) rfl rfl rfl) rfl rfl ?_
    refine XA rfl rfl rfl (XA rfl rfl rfl (XR_nil ?_))
    refine X_ret (.cons (.tmp rfl) (.cons (.tmp rfl) .nil)) ?_
    exact ⟨rfl, st⟩
   ·refine X_seq ?_
    have hnh : ¬ hitC ls (tval (bs.take n)) n := by rintro ⟨h1, h2⟩; omega
    rw [if_neg hnh] at hgo
    refine X_reg (XV rfl rfl rfl (XV rfl rfl rfl (XV rfl rfl rfl ?_)))
    refine XR_wa (opl_call (over_spec (st.perm (List.Perm.swap _ _ _)) hok hn15 hlt) rfl (by kernel_rfl)) rfl rfl rfl ?_
    rintro _ _ ⟨rfl, rfl⟩
    refine XA rfl rfl rfl (XR_nil ?_)
    refine X_cond rfl (fun h => ?_) (fun h => ?_)
    ·rw [if_pos h] at hgo
     subst hgo
     refine X_seq (X_reg (XA rfl rfl rfl (XR_nil (X_exit rfl (X_seq (X_reg (XV rfl rfl rfl (XA rfl rfl rfl (XA rfl rfl rfl ?_)))))))))
     refine XR_nil ?_
     refine X_ret (.cons (.tmp rfl) (.cons (.tmp rfl) .nil)) ?_
     exact ⟨rfl, st⟩
    ·rw [if_neg (by rw [h]; simp)] at hgo
     refine X_skip (X_blk (X_reg (XV rfl rfl rfl (XV rfl rfl rfl (XV rfl rfl rfl (XR_a (op_nilCheck rfl) rfl rfl ?_))))))
     first | refine XR_a (op_field0 rfl rfl) rfl rfl ?_ | refine XR_a (op_fieldn rfl rfl) rfl rfl ?_
     first | refine XR_a (op_indexA1 rfl rfl rfl (by omega)) rfl rfl ?_ | refine XR_a (op_indexO rfl rfl rfl (by omega)) rfl rfl ?_ | refine XR_a (op_indexA rfl rfl rfl (by omega)) rfl rfl ?_
     refine XR_a (op_ld (so.cell 0 (i := 18 + n) rfl ((codeC_m (fstTo_len _ _) (by rw [cnts_len]; omega)).trans (map_get_nV hgm))) rfl rfl rfl) rfl rfl ?_
     first | refine XR_a (op_addN rfl rfl (by simp only [inK]; omega)) rfl rfl ?_ | refine XR_a (op_addI rfl rfl (by simp only [inK]; omega)) rfl rfl ?_ | refine XR_a (op_add rfl rfl) rfl rfl ?_
     refine XR_as (.int .i64 ((orderTo ls (n + 1)).length : Nat)) (by rw [hon]) ?_
     refine XA rfl rfl rfl (XR_nil (X_blk (X_reg (XV rfl rfl rfl ?_))))
     first | refine XR_a (op_addN (n := 1) rfl rfl (by simp only [inK]; omega)) rfl rfl ?_ | refine XR_a (op_addI rfl rfl (by simp only [inK]; omega)) rfl rfl ?_ | refine XR_a (op_add rfl rfl) rfl rfl ?_
     refine XA rfl rfl rfl (XR_nil ?_)
     exact X_again (n + 1) (.cons rfl (.cons rfl (.cons rfl (.cons rfl (.cons rfl (.cons rfl (.cons rfl (.cons rfl (.nil _))))))))) ⟨rfl, by omega, by omega, by rw [hgo, show 17 - (n + 1) = g by omega]⟩ (by omega)
  ·refine XR_no rfl rfl (XR_no rfl rfl (XR_no rfl rfl (XR_no rfl rfl (XR_no rfl rfl (XR_no rfl rfl (XR_no rfl rfl (XR_no rfl rfl (XR_a (op_pick_f rfl rfl) rfl rfl (XA rfl rfl rfl ?_)))))))))
   refine XR_nil (X_else rfl (X_seq ?_))
   have hnh : ¬ hitC ls (tval (bs.take n)) n := by rintro ⟨h1, h2⟩; omega
   rw [if_neg hnh] at hgo
   refine X_reg (XV rfl rfl rfl (XV rfl rfl rfl (XV rfl rfl rfl ?_)))
   refine XR_wa (opl_call (over_spec (st.perm (List.Perm.swap _ _ _)) hok hn15 hlt) rfl (by kernel_rfl)) rfl rfl rfl ?_
   rintro _ _ ⟨rfl, rfl⟩
   refine XA rfl rfl rfl (XR_nil ?_)
   refine X_cond rfl (fun h => ?_) (fun h => ?_)
   ·rw [if_pos h] at hgo
    subst hgo
    refine X_seq (X_reg (XA rfl rfl rfl (XR_nil (X_exit rfl (X_seq (X_reg (XV rfl rfl rfl (XA rfl rfl rfl (XA rfl rfl rfl ?_)))))))))
    refine XR_nil ?_
    refine X_ret (.cons (.tmp rfl) (.cons (.tmp rfl) .nil)) ?_
    exact ⟨rfl, st⟩
   ·rw [if_neg (by rw [h]; simp)] at hgo
    refine X_skip (X_blk (X_reg (XV rfl rfl rfl (XV rfl rfl rfl (XV rfl rfl rfl (XR_a (op_nilCheck rfl) rfl rfl ?_))))))
    first | refine XR_a (op_field0 rfl rfl) rfl rfl ?_ | refine XR_a (op_fieldn rfl rfl) rfl rfl ?_
    first | refine XR_a (op_indexA1 rfl rfl rfl (by omega)) rfl rfl ?_ | refine XR_a (op_indexO rfl rfl rfl (by omega)) rfl rfl ?_ | refine XR_a (op_indexA rfl rfl rfl (by omega)) rfl rfl ?_
    refine XR_a (op_ld (so.cell 0 (i := 18 + n) rfl ((codeC_m (fstTo_len _ _) (by rw [cnts_len]; omega)).trans (map_get_nV hgm))) rfl rfl rfl) rfl rfl ?_
    first | refine XR_a (op_addN rfl rfl (by simp only [inK]; omega)) rfl rfl ?_ | refine XR_a (op_addI rfl rfl (by simp only [inK]; omega)) rfl rfl ?_ | refine XR_a (op_add rfl rfl) rfl rfl ?_
    refine XR_as (.int .i64 ((orderTo ls (n + 1)).length : Nat)) (by rw [hon]) ?_
    refine XA rfl rfl rfl (XR_nil (X_blk (X_reg (XV rfl rfl rfl ?_))))
    first | refine XR_a (op_addN (n := 1) rfl rfl (by simp only [inK]; omega)) rfl rfl ?_ | refine XR_a (op_addI rfl rfl (by simp only [inK]; omega)) rfl rfl ?_ | refine XR_a (op_add rfl rfl) rfl rfl ?_
    refine XA rfl rfl rfl (XR_nil ?_)
    exact X_again (n + 1) (.cons rfl (.cons rfl (.cons rfl (.cons rfl (.cons rfl (.cons rfl (.cons rfl (.cons rfl (.nil _))))))))) ⟨rfl, by omega, by omega, by rw [hgo, show 17 - (n + 1) = g by omega]⟩ (by omega)
 ·rw [takeGo_end (by omega)] at hgo
  subst hgo
  refine X_exit rfl (X_seq (X_reg (XV rfl rfl rfl (XA rfl rfl rfl (XA rfl rfl rfl (XR_nil ?_))))))
  refine X_ret (.cons (.tmp rfl) (.cons (.tmp rfl) .nil)) ?_
  exact ⟨rfl, st⟩
def errC (li : List Int) : Int := if rightC li then 0 else 13
theorem errC_zero {li : List Int} : errC li = 0 ↔ rightC li := by unfold errC; split <;> simp [*]
theorem St.behind {h0 hp h' : Heap} {r : Res} (hx : Ext h0 hp) (st : St hp.size hp h' [r]) : St h0.size h0 h' [r] := ((St.start h0).ext hx).join st
theorem cnew_spec {n c : Nat} {A : Option Addr} {li : List Int} {h0 : Heap} (hr : Rd h0 A (li.map iV)) (hl : li.length = n) (hn : n ≤ 17592186044416) :
  Ret Try.prog 63 [.slice A n c] h0 fun v h' =>
   ∃ w, v = retVal [w, .int .i64 (errC li)] ∧ Ext h0 h' ∧ (rightC li → ∃ p, w = .pointer (some ⟨p, 0, none⟩) ∧ St h0.size h0 h' [codeR p (li.map Int.toNat)]) ∧ (¬ rightC li → w = .pointer none) := by
 refine ret_of_X Try.func63 rfl rfl fun w0 hw0 => ?_
 simp only [argE, Nat.zero_add, Nat.reduceAdd]
 refine X_seq (X_reg (XA rfl rfl rfl (XA rfl rfl rfl (XR_nil (X_seq (X_seq (X_reg (XV rfl rfl rfl ?_))))))))
 refine XR_wa (opl_call (cright_spec hr hl hn) rfl (by kernel_rfl)) rfl rfl rfl ?_
 rintro _ hp ⟨rfl, hx⟩
 first | refine XR_a (op_notd rfl) rfl rfl ?_ | refine XR_a (op_not rfl) rfl rfl ?_
 refine XR_nil ?_
 refine X_cond rfl (fun h => ?_) (fun h => ?_)
 ·refine X_seq (X_reg (XA rfl rfl rfl (XA rfl rfl rfl (XR_nil ?_))))
  refine X_ret (.cons (.tmp rfl) (.cons (.tmp rfl) .nil)) ?_
  have hR : ¬ rightC li := by simpa using h
  exact ⟨_, by unfold errC; rw [if_neg hR], hx, fun hh => absurd hh hR, fun _ => rfl⟩
 ·have hR : rightC li := by simpa using h
  have e := toNat_map fun x hx => (hR.2.1.2 x hx).1
  have hr2 : Rd h0 A ((li.map Int.toNat).map nV) := by rw [nV_iV, e]; exact hr
  refine X_skip (X_seq (X_reg (XV rfl rfl rfl ?_)))
  refine XR_wa (opl_call (build_spec (ls := li.map Int.toNat) (hr2.ext hx) (by rw [List.length_map]; exact hl) hR.ok) rfl (by kernel_rfl)) rfl rfl rfl ?_
  rintro _ hp2 ⟨p, rfl, st⟩
  refine XA rfl rfl rfl (XA rfl rfl rfl (XR_nil ?_))
  refine X_ret (.cons (.tmp rfl) (.cons (.tmp rfl) .nil)) ?_
  exact ⟨_, by unfold errC; rw [if_pos hR], hx.trans st.low, fun _ => ⟨p, rfl, St.behind hx st⟩, fun hh => absurd hR hh⟩
end Go.Bn
end

section
set_option linter.unusedVariables false
set_option linter.unusedSimpArgs false
set_option maxHeartbeats 4000000
set_option maxRecDepth 20000
namespace Go.Bn
open Go Proofs
theorem values08_ref {n c : Nat} {A : Option Addr} {ls : List Nat} {h0 : Heap} (hr : Rd h0 A (ls.map nV)) (hl : ls.length = n) (hok : lensOK ls) :
  Ret Try.prog 47 [.slice A n c] h0 fun v h' => St h0.size h0 h' [row 3 1 v ((vals ls).map nV)] := by
 have hn := hok.2.1
 have hn1 := hok.1
 obtain ⟨gA, oA, rfl, hcA⟩ := hr.at_ (by rw [List.length_map]; omega)
 refine ret_of_X Try.func47 rfl rfl fun w0 hw0 => ?_
 simp only [argE, Nat.zero_add, Nat.reduceAdd]
 have st := St.start h0
 refine X_seq (X_reg (XA rfl rfl rfl (XR_nil (X_seq (X_reg (XV rfl rfl rfl ?_))))))
 refine XR_a (op_len rfl rfl rfl) rfl rfl ?_
 refine XR_wa (opl_mk (by omega) rfl rfl rfl) rfl rfl rfl ?_
 rintro v hp hnew
 have st := st.new hnew
 refine XA rfl rfl rfl (XR_nil (X_seq (X_reg (XA rfl rfl rfl (XA rfl rfl rfl (XR_nil (X_seq (X_seq (X_reg ?_)))))))))
 refine XA rfl rfl rfl (XR_nil (X_block ?_))
 obtain ⟨gb, nb, cb, rfl, hlb, _, _, _⟩ := st.row0 0 rfl (by rw [List.length_replicate]; omega)
 obtain rfl : nb = n := by rw [List.length_replicate] at hlb; omega
 rw [show List.replicate nb (Value.int IntKind.i64 0) = List.replicate ls.length (iV 0) by rw [hl], zeros_val] at st
 refine X_loop (fun s => 16 - s.1) (fun s => [(0, .slice (some ⟨gA, oA, none⟩) nb c), (3, .slice (some ⟨gb, 0, none⟩) nb cb), (4, .int .i64 (s.2.1 : Nat)), (5, .int .i64 (s.2.2 : Nat)), (6, .int .i64 (s.1 : Nat))])
  (fun (s : Nat × Nat × Nat) hp => St h0.size h0 hp [row 3 1 (.slice (some ⟨gb, 0, none⟩) nb cb) (((List.range ls.length).map (valAt ls s.1 0)).map nV)] ∧ 1 ≤ s.1 ∧ s.1 ≤ 16 ∧ refAt ls s.1 0 s.2.1 s.2.2)
  (1, 0, 0) (.cons rfl (.cons rfl (.cons rfl (.cons rfl (.cons rfl (.nil _)))))) ⟨st, by simp, by simp, .inl ⟨rfl, rfl, fun m h1 h2 => by simp only at h2; omega, by simp⟩⟩ ?_
 clear st
 rintro ⟨m, next, last⟩ hp ⟨st, hm1, hm16, href⟩
 simp only at st hm1 hm16 href ⊢
 refine X_seq (X_seq (X_reg (XV rfl rfl rfl ?_)))
 refine XR_a (op_leq rfl rfl) rfl rfl ?_
 refine XR_nil ?_
 refine X_if rfl (fun h => ?_) (fun h => ?_)
 ·have hm15 : m ≤ 15 := by omega
  have hbd := fst_bd hok hm15
  have hcm := cn_pos (n := m) ls (by omega)
  refine X_skip (X_seq (X_block (X_seq (X_reg (XA rfl rfl rfl (XR_nil (X_block ?_)))))))
  refine X_loop (fun s => nb - s.1) (fun s => [(0, .slice (some ⟨gA, oA, none⟩) nb c), (3, .slice (some ⟨gb, 0, none⟩) nb cb), (4, .int .i64 (s.2.1 : Nat)), (5, .int .i64 (s.2.2 : Nat)), (6, .int .i64 (m : Nat)), (7, .int .i64 (s.1 : Nat))])
   (fun (s : Nat × Nat × Nat) hp => St h0.size h0 hp [row 3 1 (.slice (some ⟨gb, 0, none⟩) nb cb) (((List.range ls.length).map (valAt ls m s.1)).map nV)] ∧ s.1 ≤ nb ∧ refAt ls m s.1 s.2.1 s.2.2)
   (0, next, last) (.cons rfl (.cons rfl (.cons rfl (.cons rfl (.cons rfl (.cons rfl (.nil _))))))) ⟨st, by simp, href⟩ ?_
  clear st href
  rintro ⟨s, next, last⟩ hp ⟨st, hs, href⟩
  simp only at st hs href ⊢
  refine X_seq (X_seq (X_reg (XV rfl rfl rfl (XV rfl rfl rfl ?_))))
  refine XR_a (op_len rfl rfl rfl) rfl rfl ?_
  refine XR_a (op_lss rfl rfl) rfl rfl ?_
  refine XR_nil ?_
  refine X_if rfl (fun h => ?_) (fun h => ?_)
  ·have hsn : s < ls.length := by omega
   have hcs := hcA s (nV ls[s]) (by simp [hsn])
   have hctl : (ls.take s).count m ≤ ls.count m := (List.take_sublist _ _).count_le _
   refine X_skip (X_seq (X_block (X_seq (X_seq (X_reg (XV rfl rfl rfl (XV rfl rfl rfl ?_)))))))
   first | refine XR_a (op_index1 rfl rfl rfl (by omega)) rfl rfl ?_ | refine XR_a (op_index rfl rfl rfl (by omega)) rfl rfl ?_
   refine XR_a (op_ld ((cellH_ext (a := ⟨gA, oA + s, none⟩) st.low hcs)) rfl rfl rfl) rfl rfl ?_
   refine XV rfl rfl rfl ?_
   refine XR_a (op_neq rfl rfl) rfl rfl ?_
   refine XR_nil ?_
   refine X_if rfl (fun h => ?_) (fun h => ?_)
   ·refine X_exit rfl (X_reg (XV rfl rfl rfl ?_))
    first | refine XR_a (op_addN (n := 1) rfl rfl (by simp only [inK]; omega)) rfl rfl ?_ | refine XR_a (op_addI rfl rfl (by simp only [inK]; omega)) rfl rfl ?_ | refine XR_a (op_add rfl rfl) rfl rfl ?_
    refine XA rfl rfl rfl (XR_nil ?_)
    have hne : ls[s] ≠ m := by omega
    rw [valAt_skip hsn hne] at st
    exact X_again (s + 1, next, last) (.cons rfl (.cons rfl (.cons rfl (.cons rfl (.cons rfl (.cons rfl (.nil _))))))) ⟨st, by simp only; omega, refAt_skip hsn hne href⟩ (by simp only; omega)
   ·refine X_skip (X_seq (X_block ?_))
    have hsm : ls[s] = m := by omega
    refine X_loop (fun t => m - t.2) (fun t => [(0, .slice (some ⟨gA, oA, none⟩) nb c), (3, .slice (some ⟨gb, 0, none⟩) nb cb), (4, .int .i64 (t.1 : Nat)), (5, .int .i64 (t.2 : Nat)), (6, .int .i64 (m : Nat)), (7, .int .i64 (s : Nat))])
     (fun (t : Nat × Nat) hp' => hp' = hp ∧ refAt ls m s t.1 t.2)
     (next, last) (.cons rfl (.cons rfl (.cons rfl (.cons rfl (.cons rfl (.cons rfl (.nil _))))))) ⟨rfl, href⟩ ?_
    clear href
    rintro ⟨next, last⟩ hp2 ⟨rfl, href⟩
    simp only at href ⊢
    refine X_seq (X_seq (X_reg (XV rfl rfl rfl ?_)))
    refine XR_a (op_gtr rfl rfl) rfl rfl ?_
    refine XV rfl rfl rfl ?_
    refine XR_if 29 rfl (fun h => ?_) (fun h => ?_)
    ·refine XV rfl rfl rfl (XV rfl rfl rfl ?_)
     refine XR_a (op_lss rfl rfl) rfl rfl ?_
     refine XR_a (op_pick_t rfl rfl) rfl rfl (XR_nil ?_)
     refine X_if rfl (fun h => ?_) (fun h => ?_)
     ·obtain ⟨hd, hdle⟩ := refAt_double (by omega) (by omega) href
      refine X_skip (X_block (X_seq (X_reg (XV rfl rfl rfl ?_))))
      refine XR_a (op_mulN (m := next) (n := 2) rfl rfl (by simp only [inK]; omega)) rfl rfl ?_
      refine XA rfl rfl rfl (XR_nil (X_reg (XV rfl rfl rfl ?_)))
      first | refine XR_a (op_addN (n := 1) rfl rfl (by simp only [inK]; omega)) rfl rfl ?_ | refine XR_a (op_addI rfl rfl (by simp only [inK]; omega)) rfl rfl ?_ | refine XR_a (op_add rfl rfl) rfl rfl ?_
      refine XA rfl rfl rfl (XR_nil (X_blk ?_))
      exact X_again (next * 2, last + 1) (.cons rfl (.cons rfl (.cons rfl (.cons rfl (.cons rfl (.cons rfl (.nil _))))))) ⟨rfl, hd⟩ (by simp only; omega)
     ·refine X_exit rfl (X_seq ?_)
      obtain ⟨hnx, hnr⟩ := refAt_hit (by omega) hsn hsm (by omega) href
      have hset := valAt_set hsn hsm (by omega)
      refine X_reg (XV rfl rfl rfl (XA rfl rfl rfl (XR_nil (X_seq (X_reg (XV rfl rfl rfl (XV rfl rfl rfl (XV rfl rfl rfl ?_))))))))
      first | refine XR_a (op_index1 rfl rfl rfl (by omega)) rfl rfl ?_ | refine XR_a (op_index rfl rfl rfl (by omega)) rfl rfl ?_
      refine XR_wn (opl_store_row (o := 0) (i := s) (v := nV next) st 0 rfl (congrArg (fun x => some (Value.pointer (some ⟨gb, x, none⟩))) (by omega)) rfl (by simp; omega) rfl rfl) rfl rfl fun _ hp st => ?_
      simp only [List.set_cons_zero, List.set_cons_succ] at st
      rw [map_set_nV, hnx, hset] at st
      refine XR_nil (X_reg (XV rfl rfl rfl ?_))
      first | refine XR_a (op_addN (n := 1) rfl rfl (by simp only [inK]; omega)) rfl rfl ?_ | refine XR_a (op_addI rfl rfl (by simp only [inK]; omega)) rfl rfl ?_ | refine XR_a (op_add rfl rfl) rfl rfl ?_
      refine XA rfl rfl rfl (XR_nil (X_blk (X_reg (XV rfl rfl rfl ?_))))
      first | refine XR_a (op_addN (n := 1) rfl rfl (by simp only [inK]; omega)) rfl rfl ?_ | refine XR_a (op_addI rfl rfl (by simp only [inK]; omega)) rfl rfl ?_ | refine XR_a (op_add rfl rfl) rfl rfl ?_
      refine XA rfl rfl rfl (XR_nil ?_)
      exact X_again (s + 1, next + 1, m) (.cons rfl (.cons rfl (.cons rfl (.cons rfl (.cons rfl (.cons rfl (.nil _))))))) ⟨st, by simp only; omega, hnr⟩ (by simp only; omega)
    ·refine XR_no rfl rfl (XR_no rfl rfl (XR_no rfl rfl (XR_a (op_pick_f rfl rfl) rfl rfl (XR_nil (X_else rfl (X_exit rfl (X_seq ?_)))))))
     obtain ⟨hnx, hnr⟩ := refAt_hit (by omega) hsn hsm (by omega) href
     have hset := valAt_set hsn hsm (by omega)
     refine X_reg (XV rfl rfl rfl (XA rfl rfl rfl (XR_nil (X_seq (X_reg (XV rfl rfl rfl (XV rfl rfl rfl (XV rfl rfl rfl ?_))))))))
     first | refine XR_a (op_index1 rfl rfl rfl (by omega)) rfl rfl ?_ | refine XR_a (op_index rfl rfl rfl (by omega)) rfl rfl ?_
     refine XR_wn (opl_store_row (o := 0) (i := s) (v := nV next) st 0 rfl (congrArg (fun x => some (Value.pointer (some ⟨gb, x, none⟩))) (by omega)) rfl (by simp; omega) rfl rfl) rfl rfl fun _ hp st => ?_
     simp only [List.set_cons_zero, List.set_cons_succ] at st
     rw [map_set_nV, hnx, hset] at st
     refine XR_nil (X_reg (XV rfl rfl rfl ?_))
     first | refine XR_a (op_addN (n := 1) rfl rfl (by simp only [inK]; omega)) rfl rfl ?_ | refine XR_a (op_addI rfl rfl (by simp only [inK]; omega)) rfl rfl ?_ | refine XR_a (op_add rfl rfl) rfl rfl ?_
     refine XA rfl rfl rfl (XR_nil (X_blk (X_reg (XV rfl rfl rfl ?_))))
     first | refine XR_a (op_addN (n := 1) rfl rfl (by simp only [inK]; omega)) rfl rfl ?_ | refine XR_a (op_addI rfl rfl (by simp only [inK]; omega)) rfl rfl ?_ | refine XR_a (op_add rfl rfl) rfl rfl ?_
     refine XA rfl rfl rfl (XR_nil ?_)
     exact X_again (s + 1, next + 1, m) (.cons rfl (.cons rfl (.cons rfl (.cons rfl (.cons rfl (.cons rfl (.nil _))))))) ⟨st, by simp only; omega, hnr⟩ (by simp only; omega)
  ·refine X_exit rfl (X_blk (X_reg (XV rfl rfl rfl ?_)))
   first | refine XR_a (op_addN (n := 1) rfl rfl (by simp only [inK]; omega)) rfl rfl ?_ | refine XR_a (op_addI rfl rfl (by simp only [inK]; omega)) rfl rfl ?_ | refine XR_a (op_add rfl rfl) rfl rfl ?_
   refine XA rfl rfl rfl (XR_nil ?_)
   obtain rfl : s = nb := by omega
   rw [show (valAt ls m s) = valAt ls m ls.length by rw [hl], valAt_next ls m (by omega)] at st
   exact X_again (m + 1, next, last) (.cons rfl (.cons rfl (.cons rfl (.cons rfl (.cons rfl (.nil _)))))) ⟨st, by simp only; omega, by simp only; omega, refAt_next (by omega) (by rw [hl]; exact href)⟩ (by simp only; omega)
 ·refine X_exit rfl (X_seq (X_reg (XV rfl rfl rfl (XA rfl rfl rfl (XR_nil ?_)))))
  refine X_ret (.cons (.tmp rfl) .nil) ?_
  obtain rfl : m = 16 := by omega
  rw [valAt_full ls hok.2.2.1] at st
  exact st
theorem byte_bit (x : Nat) : Value.int .u8 ((x % 2 : Nat) : Int) = byteV (if (x % 2 == 1) = true then 1 else 0) := by
 rw [← b01_mod]
 have h : x % 2 % 2 ^ 8 = x % 2 := Nat.mod_eq_of_lt (by have := Nat.mod_lt x (show 0 < 2 by omega); omega)
 simp only [byteV, UInt8.toNat_ofNat', h]
theorem bits08_ref {z n : Nat} {h0 : Heap} (hv : z ≤ 1099511627776) (hn : n ≤ 1048576) :
  Ret Try.prog 73 [.int .i64 (z : Int), .int .i64 (n : Int)] h0 fun w h' => St h0.size h0 h' [row 5 1 w ((b01 (codeBits z n)).map byteV)] := by
 refine ret_of_X Try.func73 rfl rfl fun w0 hw0 => ?_
 simp only [argE, Nat.zero_add, Nat.reduceAdd]
 have st := St.start h0
 refine X_seq (X_reg (XA rfl rfl rfl (XR_nil (X_seq (X_reg (XA rfl rfl rfl (XR_nil (X_seq (X_seq ?_)))))))))
 refine X_reg (XA rfl rfl rfl (XR_nil (X_block ?_)))
 replace st := st.nilrow 5 1
 refine X_loop (fun s => n - s.1) (fun s => [(0, .int .i64 (z / 2 ^ s.1 : Nat)), (1, .int .i64 (n : Int)), (5, s.2), (6, .int .i64 (s.1 : Nat))])
  (fun (s : Nat × Value) hp => St h0.size h0 hp [row 5 1 s.2 ((b01 (codeBits z s.1)).map byteV)] ∧ s.1 ≤ n)
  (0, .slice none 0 0) (.cons (by rw [Nat.pow_zero, Nat.div_one]; rfl) (.cons rfl (.cons rfl (.cons rfl (.nil _))))) ⟨st, by simp⟩ ?_
 clear st
 rintro ⟨i, w⟩ hp ⟨st, hi⟩
 simp only at st hi ⊢
 refine X_seq (X_seq (X_reg (XV rfl rfl rfl (XV rfl rfl rfl ?_))))
 refine XR_a (op_lss rfl rfl) rfl rfl ?_
 refine XR_nil ?_
 refine X_if rfl (fun h => ?_) (fun h => ?_)
 ·have hdl : z / 2 ^ i ≤ 1099511627776 := Nat.le_trans (Nat.div_le_self _ _) hv
  have hcc := codeBits_cons i z
  have hdd : z / 2 ^ (i + 1) = z / 2 ^ i / 2 := by rw [Nat.pow_succ, Nat.div_div_eq_div_mul]
  obtain ⟨y, hy⟩ : ∃ y, z / 2 ^ i = y := ⟨_, rfl⟩
  rw [hy] at hdl hcc hdd ⊢
  have hyb := byte_bit y
  have hcl := codeBits_length i z
  refine X_skip (X_seq (X_block (X_seq (X_reg (XV rfl rfl rfl ?_)))))
  first | refine XR_a (op_remN (n := 2) rfl rfl (by omega)) rfl rfl ?_ | refine XR_a (op_remI rfl rfl (by omega) (by omega)) rfl rfl ?_ | refine XR_a (op_rem rfl rfl (by omega)) rfl rfl ?_
  first | refine XR_a (op_convI rfl rfl (by simp only [inK]; omega)) rfl rfl ?_ | refine XR_a (op_convU rfl rfl rfl) rfl rfl ?_ | refine XR_a (op_conv rfl rfl) rfl rfl ?_
  refine XR_as (byteV (if (y % 2 == 1) = true then 1 else 0)) hyb ?_
  refine XR_wa (opl_lit1 rfl rfl rfl) rfl rfl rfl ?_
  rintro w2 hp hnew
  replace st := st.new hnew
  obtain ⟨A3, n3, c3, rfl, hlen3, _, _, hrd3⟩ := st.row 1 rfl
  refine XV rfl rfl rfl ?_
  refine XR_wa (opl_append st 0 rfl (hrd3) (hlen3) (one_bytes _) (by simp [b01_length]; omega) rfl rfl rfl rfl rfl rfl rfl) rfl rfl rfl fun v hp st => ?_
  simp only [List.set_cons_zero, List.set_cons_succ] at st
  replace st := (st.perm (List.Perm.swap _ _ _)).tail
  have e : [byteV (if (y % 2 == 1) = true then 1 else 0)] ++ (b01 (codeBits z i)).map byteV = (b01 (codeBits z (i + 1))).map byteV := by rw [hcc]; rfl
  rw [e] at st
  refine XA rfl rfl rfl (XR_nil (X_reg (XV rfl rfl rfl ?_)))
  first | refine XR_a (op_quoN (n := 2) rfl rfl (by omega) (by simp only [inK]; omega)) rfl rfl ?_ | refine XR_a (op_quoI rfl rfl (by omega) (by omega) (by simp only [inK]; omega)) rfl rfl ?_ | refine XR_a (op_quo rfl rfl (by omega)) rfl rfl ?_
  refine XA rfl rfl rfl (XR_nil (X_blk (X_reg (XV rfl rfl rfl ?_))))
  first | refine XR_a (op_addN (n := 1) rfl rfl (by simp only [inK]; omega)) rfl rfl ?_ | refine XR_a (op_addI rfl rfl (by simp only [inK]; omega)) rfl rfl ?_ | refine XR_a (op_add rfl rfl) rfl rfl ?_
  refine XA rfl rfl rfl (XR_nil ?_)
  exact X_again (i + 1, _) (.cons (by rw [hdd]; rfl) (.cons rfl (.cons rfl (.cons rfl (.nil _))))) ⟨st, by simp only; omega⟩ (by simp only; omega)
 ·refine X_exit rfl (X_seq (X_reg (XV rfl rfl rfl (XA rfl rfl rfl (XR_nil ?_)))))
  refine X_ret (.cons (.tmp rfl) .nil) ?_
  obtain rfl : i = n := by omega
  exact st
end Go.Bn
end

section
set_option linter.unusedVariables false
set_option linter.unusedSimpArgs false
namespace Go.Bn
def lowB (x : Int) : Nat → List Bool
  | 0 => []
  | k + 1 => lowB x k ++ [x / 2 ^ k % 2 == 1]
def turnI (x : Int) (k : Nat) : Nat := tval (lowB x k)
def turnV (v n : Nat) : Nat := turnI (v : Int) n
theorem lowB_length (x : Int) : ∀ k, (lowB x k).length = k
 | 0 => rfl
 | k + 1 => by simp [lowB, lowB_length x k]
theorem lowB_nat (v : Nat) : ∀ k, lowB (v : Int) k = bitsN k v
 | 0 => rfl
 | k + 1 => by
  rw [lowB, lowB_nat v k, bitsN_snoc]
  congr 2
  have : ((v : Int) / 2 ^ k % 2) = ((v / 2 ^ k % 2 : Nat) : Int) := by
   rw [Int.natCast_emod, Int.natCast_ediv, Int.natCast_pow]; rfl
  rw [this]
  generalize v / 2 ^ k % 2 = y
  by_cases h : y = 1
  ·subst h; rfl
  ·rw [beq_eq_false_iff_ne.2 h, beq_eq_false_iff_ne.2 (by omega)]
theorem tval_reverse : ∀ l : List Bool, tval l.reverse = valB l
 | [] => rfl
 | b :: r => by rw [List.reverse_cons, tval_snoc, tval_reverse r, valB]; omega
theorem bitsN_rev : ∀ (n v : Nat), (codeBits v n).reverse = bitsN n v
 | 0, _ => rfl
 | n + 1, v => by rw [codeBits, List.reverse_append, bitsN_rev n]; rfl
theorem turnV_eq (v n : Nat) : turnV v n = valB (codeBits v n) := by
 unfold turnV turnI
 rw [lowB_nat, ← bitsN_rev, tval_reverse]
theorem turnV_lt (v n : Nat) : turnV v n < 2 ^ n := by
 have := valB_lt (codeBits v n)
 rwa [codeBits_length, ← turnV_eq] at this
theorem bits_turnV (v n : Nat) : bitsN n (turnV v n) = codeBits v n := by
 have := bitsN_valB (codeBits v n)
 rwa [codeBits_length, ← turnV_eq] at this
abbrev QC := Nat × Nat × Nat
def codeOf (ls : List Nat) (s : Nat) : List QC := if ls.getD s 0 = 0 then [] else [(s, turnV (val ls s) (ls.getD s 0), ls.getD s 0)]
def codesTo (ls : List Nat) (i : Nat) : List QC := (List.range i).flatMap (codeOf ls)
def qcodes (ls : List Nat) : List QC := codesTo ls ls.length
structure QOk (Q : List QC) : Prop where
  len : ∀ c ∈ Q, 1 ≤ c.2.2 ∧ c.2.2 ≤ 15
  bits : ∀ c ∈ Q, c.2.1 < 2 ^ c.2.2
  apart : ∀ c ∈ Q, ∀ c' ∈ Q, c.2.2 ≤ c'.2.2 → c'.2.1 % 2 ^ c.2.2 = c.2.1 → c = c'
theorem mem_qcodes {ls : List Nat} {c : QC} : c ∈ qcodes ls ↔ ∃ s, ∃ h : s < ls.length, ls[s] ≠ 0 ∧ c = (s, turnV (val ls s) ls[s], ls[s]) := by
 unfold qcodes codesTo
 rw [List.mem_flatMap]
 constructor
 ·rintro ⟨s, hs, hc⟩
  have hs : s < ls.length := List.mem_range.1 hs
  unfold codeOf at hc
  rw [getD_get hs] at hc
  split at hc
  ·cases hc
  ·rename_i h0
   exact ⟨s, hs, h0, by simpa using hc⟩
 ·rintro ⟨s, hs, h0, rfl⟩
  refine ⟨s, List.mem_range.2 hs, ?_⟩
  unfold codeOf
  rw [getD_get hs, if_neg h0]; simp
theorem bitsN_take : ∀ (n m x : Nat), n ≤ m → (bitsN m x).take n = bitsN n x := by
 intro n m x h
 obtain ⟨d, rfl⟩ : ∃ d, m = n + d := ⟨m - n, by omega⟩
 rw [bitsN_add, List.take_append_of_le_length (by rw [bitsN_length]; omega), List.take_of_length_le (by rw [bitsN_length]; omega)]
theorem bitsN_inj {n x y : Nat} (hx : x < 2 ^ n) (hy : y < 2 ^ n) (h : bitsN n x = bitsN n y) : x = y := by
 have := congrArg valB h
 rwa [valB_bitsN, valB_bitsN, Nat.mod_eq_of_lt hx, Nat.mod_eq_of_lt hy] at this
theorem match_iff {v n x : Nat} : x % 2 ^ n = turnV v n ↔ bitsN n x = codeBits v n := by
 constructor
 ·intro h
  rw [← bits_turnV, ← h, bitsN_mod]
 ·intro h
  refine bitsN_inj (n := n) (Nat.mod_lt _ (Nat.pow_pos (by omega))) (turnV_lt v n) ?_
  rw [bitsN_mod, bits_turnV, h]
theorem qcodes_ok {ls : List Nat} (hok : lensOK ls) : QOk (qcodes ls) := by
 constructor
 ·intro c hc
  obtain ⟨s, hs, h0, rfl⟩ := mem_qcodes.1 hc
  have := hok.2.2.1 ls[s] (List.getElem_mem hs)
  simp only; omega
 ·intro c hc
  obtain ⟨s, hs, h0, rfl⟩ := mem_qcodes.1 hc
  exact turnV_lt _ _
 ·intro c hc c' hc' hle hm
  obtain ⟨s, hs, h0, rfl⟩ := mem_qcodes.1 hc
  obtain ⟨s', hs', h0', rfl⟩ := mem_qcodes.1 hc'
  simp only at hle hm ⊢
  by_cases he : s = s'
  ·subst he; rfl
  ·exfalso
   rw [match_iff, ← bitsN_take _ _ _ hle, bits_turnV, codeBits_take _ _ _ hle] at hm
   have h15 := hok.2.2.1 ls[s] (List.getElem_mem hs)
   have h15' := hok.2.2.1 ls[s'] (List.getElem_mem hs')
   have h1 := val_lt hok hs h0
   have h2 := val_lt hok hs' h0'
   have hb1 := fst_le hok h15
   have hb2 := fst_le hok h15'
   have e := congrArg tval hm
   rw [tval_codeBits, tval_codeBits, Nat.mod_eq_of_lt (by omega : val ls s < 2 ^ ls[s])] at e
   rw [Nat.mod_eq_of_lt] at e
   ·exact val_apart hok hs hs' he h0 h0' hle e.symm
   ·refine (Nat.div_lt_iff_lt_mul (Nat.pow_pos (by omega))).2 ?_
    rw [← Nat.pow_add, show ls[s] + (ls[s'] - ls[s]) = ls[s'] by omega]; omega
def hitQ (x : Nat) (c : QC) : Bool := x % 2 ^ c.2.2 == c.2.1
theorem hitQ_iff {x : Nat} {c : QC} : hitQ x c = true ↔ x % 2 ^ c.2.2 = c.2.1 := by unfold hitQ; simp
theorem mod_mod_pow (x : Nat) {n m : Nat} (h : n ≤ m) : x % 2 ^ m % 2 ^ n = x % 2 ^ n := Nat.mod_mod_of_dvd x (Nat.pow_dvd_pow 2 h)
theorem hitQ_one {Q : List QC} (h : QOk Q) {x : Nat} {c c' : QC} (hc : c ∈ Q) (hc' : c' ∈ Q) (h1 : hitQ x c = true) (h2 : hitQ x c' = true) : c = c' := by
 rw [hitQ_iff] at h1 h2
 rcases Nat.le_total c.2.2 c'.2.2 with hle | hle
 ·exact h.apart c hc c' hc' hle (by rw [← h2, mod_mod_pow x hle, h1])
 ·exact (h.apart c' hc' c hc hle (by rw [← h1, mod_mod_pow x hle, h2])).symm
theorem find_none_of {α : Type} {p : α → Bool} {l : List α} (h : ∀ c ∈ l, p c = false) : l.find? p = none := List.find?_eq_none.2 fun c hc => by rw [h c hc]; simp
theorem find_some_of {α : Type} {p : α → Bool} {l : List α} {c : α} (hc : c ∈ l) (hp : p c = true) (hu : ∀ d ∈ l, p d = true → d = c) : l.find? p = some c := by
 cases h : l.find? p with
 | none => exact absurd hp (by have := List.find?_eq_none.1 h c hc; simpa using this)
 | some d => rw [hu d (List.mem_of_find?_eq_some h) (List.find?_some h)]
end Go.Bn
end

section
set_option linter.unusedVariables false
set_option linter.unusedSimpArgs false
namespace Go.Bn
def beginQ (left x : Nat) (c : QC) : Bool := decide (left < c.2.2) && (c.2.1 % 2 ^ left == x % 2 ^ left)
def shortB (Q : List QC) (left x : Nat) : Bool := Q.any (beginQ left x)
theorem beginQ_iff {left x : Nat} {c : QC} : beginQ left x c = true ↔ left < c.2.2 ∧ c.2.1 % 2 ^ left = x % 2 ^ left := by unfold beginQ; simp
theorem shortB_true {Q : List QC} {left x : Nat} {c : QC} (hc : c ∈ Q) (h : beginQ left x c = true) : shortB Q left x = true := List.any_eq_true.2 ⟨c, hc, h⟩
theorem shortB_false {Q : List QC} {left x : Nat} (h : ∀ c ∈ Q, beginQ left x c = false) : shortB Q left x = false := by
 unfold shortB
 rw [List.any_eq_false]
 intro c hc; rw [h c hc]; simp
def matchQ (bs : List Bool) (c : QC) : Bool := decide (c.2.2 ≤ bs.length) && hitQ (valB (bs.take 15)) c
def takeS (Q : List QC) (bs : List Bool) : Nat × Nat × Nat := match Q.find? (matchQ bs) with
  | some c => (c.1, c.2.2, 0)
  | none => if shortB Q bs.length (valB (bs.take 15)) = true then (0, 0, 2) else (0, 0, 13)
theorem matchQ_iff {bs : List Bool} {c : QC} : matchQ bs c = true ↔ c.2.2 ≤ bs.length ∧ hitQ (valB (bs.take 15)) c = true := by unfold matchQ; simp
theorem ofLen_at {ls : List Nat} {n : Nat} : ∀ (t j s : Nat), t ≤ ls.length → (ofLen ls n t)[j]? = some s → ∃ h : s < ls.length, ls[s] = n ∧ (ls.take s).count n = j
 | 0, j, s, _, h => by simp [ofLen] at h
 | t + 1, j, s, ht, h => by
  rw [ofLen_succ (by omega)] at h
  have hlen := ofLen_length ls n t (by omega)
  rcases Nat.lt_or_ge j (ofLen ls n t).length with h1 | h1
  ·rw [List.getElem?_append_left h1] at h
   exact ofLen_at t j s (by omega) h
  ·rw [List.getElem?_append_right h1] at h
   split at h
   ·rename_i he
    have hj : j - (ofLen ls n t).length = 0 := by
     have := (List.getElem?_eq_some_iff.1 h).1
     simp at this; omega
    rw [hj] at h
    obtain rfl : t = s := by simpa using h
    exact ⟨by omega, he, by omega⟩
   ·simp at h
theorem symAt_spec {ls : List Nat} {n j : Nat} (hn : n ≠ 0) (hj : j < cn ls n) : ∃ h : symAt ls n j < ls.length, ls[symAt ls n j] = n ∧ (ls.take (symAt ls n j)).count n = j := by
 have hlen : (ofLen ls n ls.length).length = cn ls n := by rw [ofLen_length ls n _ (Nat.le_refl _), List.take_length, cn_pos ls hn]
 have hg : (ofLen ls n ls.length)[j]? = some (symAt ls n j) := by
  unfold symAt
  rw [List.getD, List.getElem?_eq_getElem (by omega)]; rfl
 exact ofLen_at ls.length j _ (Nat.le_refl _) hg
theorem hitC_sym {ls : List Nat} {v n : Nat} (hn : n ≠ 0) (h : hitC ls v n) : ∃ hs : symAt ls n (v - fst ls n) < ls.length, ls[symAt ls n (v - fst ls n)] = n ∧ val ls (symAt ls n (v - fst ls n)) = v := by
 obtain ⟨h1, h2⟩ := h
 obtain ⟨hs, e1, e2⟩ := symAt_spec (ls := ls) (n := n) (j := v - fst ls n) hn (by omega)
 refine ⟨hs, e1, ?_⟩
 rw [val_eq hs (by rw [e1]; exact hn), e1, e2]; omega
theorem bits_take15 (bs : List Bool) {n : Nat} (hn : n ≤ 15) (hl : n ≤ bs.length) : bitsN n (valB (bs.take 15)) = bs.take n := by
 have h1 := bitsN_valB (bs.take 15)
 have h2 := bitsN_take n (bs.take 15).length (valB (bs.take 15)) (by rw [List.length_take]; omega)
 rw [← h2, h1, List.take_take, Nat.min_eq_left hn]
theorem tval_inj : ∀ {n : Nat} {a b : List Bool}, a.length = n → b.length = n → tval a = tval b → a = b := by
 intro n a b ha hb h
 have h1 := tval_reverse a.reverse
 have h2 := tval_reverse b.reverse
 rw [List.reverse_reverse] at h1 h2
 have e : valB a.reverse = valB b.reverse := by rw [← h1, ← h2, h]
 have h3 := bitsN_valB a.reverse
 have h4 := bitsN_valB b.reverse
 rw [List.length_reverse, ha] at h3
 rw [List.length_reverse, hb] at h4
 rw [← List.reverse_inj, ← h3, ← h4, e]
theorem hit_sym {ls : List Nat} (hok : lensOK ls) {s : Nat} (hs : s < ls.length) (h0 : ls[s] ≠ 0) (bs : List Bool) (hl : ls[s] ≤ bs.length) :
  hitQ (valB (bs.take 15)) (s, turnV (val ls s) ls[s], ls[s]) = true ↔ tval (bs.take ls[s]) = val ls s := by
 have h15 := hok.2.2.1 ls[s] (List.getElem_mem hs)
 have hv := val_lt hok hs h0
 have hb := fst_le hok h15
 rw [hitQ_iff]
 simp only
 rw [match_iff, bits_take15 bs h15 hl]
 constructor
 ·intro e; rw [e, tval_codeBits, Nat.mod_eq_of_lt (by omega)]
 ·intro e
  refine tval_inj (n := ls[s]) (by rw [List.length_take]; omega) (codeBits_length _ _) ?_
  rw [tval_codeBits, Nat.mod_eq_of_lt (by omega), e]
theorem begin_sym {ls : List Nat} (hok : lensOK ls) {s n : Nat} (hs : s < ls.length) (h0 : ls[s] ≠ 0) (hn : n < ls[s]) (bs : List Bool) (hl : n ≤ bs.length) :
  (turnV (val ls s) ls[s]) % 2 ^ n = valB (bs.take 15) % 2 ^ n ↔ tval (bs.take n) = val ls s / 2 ^ (ls[s] - n) := by
 have h15 := hok.2.2.1 ls[s] (List.getElem_mem hs)
 have hv := val_lt hok hs h0
 have hb := fst_le hok h15
 have hp : 0 < 2 ^ n := Nat.pow_pos (by omega)
 have hd : val ls s / 2 ^ (ls[s] - n) < 2 ^ n := by
  refine (Nat.div_lt_iff_lt_mul (Nat.pow_pos (by omega))).2 ?_
  rw [← Nat.pow_add, show n + (ls[s] - n) = ls[s] by omega]; omega
 have e1 : bitsN n (turnV (val ls s) ls[s]) = codeBits (val ls s / 2 ^ (ls[s] - n)) n := by
  rw [← bitsN_take n ls[s] _ (by omega), bits_turnV, codeBits_take _ _ _ (by omega)]
 constructor
 ·intro e
  have e2 : bitsN n (turnV (val ls s) ls[s]) = bitsN n (valB (bs.take 15)) := by rw [← bitsN_mod, e, bitsN_mod]
  rw [e1, bits_take15 bs (by omega) hl] at e2
  rw [← e2, tval_codeBits, Nat.mod_eq_of_lt hd]
 ·intro e
  refine bitsN_inj (n := n) (Nat.mod_lt _ hp) (Nat.mod_lt _ hp) ?_
  rw [bitsN_mod, bitsN_mod, e1, bits_take15 bs (by omega) hl]
  refine tval_inj (n := n) (codeBits_length _ _) (by rw [List.length_take]; omega) ?_
  rw [tval_codeBits, Nat.mod_eq_of_lt hd, e]
theorem over_iff {ls : List Nat} (hok : lensOK ls) {n : Nat} (v : Nat) : overC ls v n ↔ ∀ s, (hs : s < ls.length) → ls[s] ≠ 0 → n < ls[s] → val ls s / 2 ^ (ls[s] - n) ≠ v := by
 constructor
 ·intro ho s hs h0 hn e
  have h15 := hok.2.2.1 ls[s] (List.getElem_mem hs)
  obtain ⟨hv2, hv1⟩ := val_lt hok hs h0
  have hp : 0 < 2 ^ (ls[s] - n) := Nat.pow_pos (by omega)
  refine ho ls[s] hn (by omega) ⟨by omega, ?_, ?_⟩
  ·have := Nat.lt_div_mul_add (a := val ls s) hp
   rw [e] at this
   rw [Nat.add_mul]; omega
  ·have := Nat.div_mul_le_self (val ls s) (2 ^ (ls[s] - n))
   rw [e] at this; omega
 ·intro ha k hk hk2 hb
  obtain ⟨b1, b2, b3⟩ := hb
  have hp : 0 < 2 ^ (k - n) := Nat.pow_pos (by omega)
  -- a number in both rows
  obtain ⟨u, hu1, hu2, hu3, hu4⟩ : ∃ u, fst ls k ≤ u ∧ u < fst ls k + cn ls k ∧ v * 2 ^ (k - n) ≤ u ∧ u < (v + 1) * 2 ^ (k - n) := by
   rcases Nat.le_total (fst ls k) (v * 2 ^ (k - n)) with h1 | h1
   ·exact ⟨v * 2 ^ (k - n), h1, b3, Nat.le_refl _, by rw [Nat.add_mul]; omega⟩
   ·exact ⟨fst ls k, Nat.le_refl _, by omega, h1, b2⟩
  obtain ⟨hs, e1, e2⟩ := hitC_sym (ls := ls) (v := u) (n := k) (by omega) ⟨hu1, hu2⟩
  refine ha _ hs (by rw [e1]; omega) (by rw [e1]; exact hk) ?_
  rw [e1, e2]
  refine Nat.le_antisymm ?_ ?_
  ·have : u / 2 ^ (k - n) < v + 1 := (Nat.div_lt_iff_lt_mul hp).2 hu4
   omega
  ·exact (Nat.le_div_iff_mul_le hp).2 hu3
theorem some_code {ls : List Nat} (hok : lensOK ls) : ∃ s, ∃ hs : s < ls.length, ls[s] ≠ 0 := by
 refine Classical.byContradiction fun hn => ?_
 have hz : ls.sum = 0 := by
  rw [List.sum_eq_zero_iff_forall_eq_nat]
  intro x hx
  obtain ⟨s, hs, rfl⟩ := List.getElem_of_mem hx
  exact Classical.byContradiction fun h0 => hn ⟨s, hs, h0⟩
 have hk := kraft_zero ls hz
 rcases hok.2.2.2 with h | h <;> omega
theorem takeC_S {ls : List Nat} (hok : lensOK ls) (bs : List Bool) : takeC ls bs = takeS (qcodes ls) bs := by
 have hQ := qcodes_ok hok
 unfold takeC
 obtain ⟨lf, hlf⟩ : ∃ lf, min bs.length 15 = lf := ⟨_, rfl⟩
 rw [hlf]
 -- somebody has a code
 have hany := some_code hok
 -- a hit is the code that stands there
 have hhit : ∀ n, 1 ≤ n → n ≤ lf → hitC ls (tval (bs.take n)) n → takeS (qcodes ls) bs = (symAt ls n (tval (bs.take n) - fst ls n), n, 0) := by
  intro n h1 h2 hh
  obtain ⟨hs, e1, e2⟩ := hitC_sym (by omega) hh
  obtain ⟨s, hse⟩ : ∃ s, symAt ls n (tval (bs.take n) - fst ls n) = s := ⟨_, rfl⟩
  simp only [hse] at hs e1 e2 ⊢
  have h0 : ls[s] ≠ 0 := by omega
  have hm := (hit_sym hok hs h0 bs (by omega)).2 (by rw [e1, e2])
  have hf : (qcodes ls).find? (matchQ bs) = some (s, turnV (val ls s) ls[s], ls[s]) :=
   find_some_of (mem_qcodes.2 ⟨s, hs, h0, rfl⟩) (matchQ_iff.2 ⟨by simp only; omega, hm⟩) fun d hd hh => hitQ_one hQ hd (mem_qcodes.2 ⟨s, hs, h0, rfl⟩) (matchQ_iff.1 hh).2 hm
  unfold takeS
  rw [hf]
  simp only [e1]
 have hgo : ∀ f n, lf + 1 < n + f → 1 ≤ n → n ≤ lf + 1 → (∀ k, 1 ≤ k → k < n → ¬ hitC ls (tval (bs.take k)) k ∧ ¬ overC ls (tval (bs.take k)) k) → takeGo ls bs lf f n = takeS (qcodes ls) bs := by
  intro f
  induction f with
  | zero => intro n h1 h2 h3; omega
  | succ f ih =>
   intro n h1 h2 h3 hno
   rw [takeGo]
   by_cases hl : lf < n
   ·rw [if_pos hl]
    have hnm : (qcodes ls).find? (matchQ bs) = none := find_none_of fun c hc => by
     cases hh : matchQ bs c with
     | false => rfl
     | true =>
      obtain ⟨s, hs, h0, rfl⟩ := mem_qcodes.1 hc
      obtain ⟨h4, h5⟩ := matchQ_iff.1 hh
      simp only at h4
      have h15 := hok.2.2.1 ls[s] (List.getElem_mem hs)
      have hv := val_lt hok hs h0
      have e := (hit_sym hok hs h0 bs h4).1 h5
      exact absurd ⟨by rw [e]; exact hv.2, by rw [e]; exact hv.1⟩ (hno ls[s] (by omega) (by omega)).1
    have hsb : shortB (qcodes ls) bs.length (valB (bs.take 15)) = true := by
     rcases Nat.eq_zero_or_pos lf with h0 | h0
     ·obtain ⟨s, hs, hs0⟩ := hany
      have hb0 : bs.length = 0 := by omega
      refine shortB_true (mem_qcodes.2 ⟨s, hs, hs0, rfl⟩) (beginQ_iff.2 ⟨by simp only; omega, ?_⟩)
      rw [hb0, Nat.pow_zero, Nat.mod_one, Nat.mod_one]
     ·have hov := (hno lf h0 (by omega)).2
      rw [over_iff hok] at hov
      simp only [Classical.not_forall, Classical.not_not] at hov
      obtain ⟨s, hs, hs0, hn, e⟩ := hov
      have h15 := hok.2.2.1 ls[s] (List.getElem_mem hs)
      have hbl : bs.length = lf := by omega
      refine shortB_true (mem_qcodes.2 ⟨s, hs, hs0, rfl⟩) (beginQ_iff.2 ⟨by simp only; omega, ?_⟩)
      simp only
      rw [hbl]
      exact (begin_sym hok hs hs0 hn bs (by omega)).2 e.symm
    unfold takeS
    rw [hnm]
    simp only
    rw [if_pos hsb]
   ·rw [if_neg hl]
    by_cases hh : hitC ls (tval (bs.take n)) n
    ·rw [if_pos hh, hhit n h2 (by omega) hh]
    ·rw [if_neg hh]
     by_cases ho : overB ls (tval (bs.take n)) n = true
     ·rw [if_pos ho]
      have ho := (over_iff hok _).1 (overB_iff.1 ho)
      have hnm : (qcodes ls).find? (matchQ bs) = none := find_none_of fun c hc => by
       cases hm : matchQ bs c with
       | false => rfl
       | true =>
        exfalso
        obtain ⟨s, hs, h0, rfl⟩ := mem_qcodes.1 hc
        obtain ⟨h4, h5⟩ := matchQ_iff.1 hm
        simp only at h4
        have h15 := hok.2.2.1 ls[s] (List.getElem_mem hs)
        have hv := val_lt hok hs h0
        have e := (hit_sym hok hs h0 bs h4).1 h5
        rcases Nat.lt_trichotomy ls[s] n with h6 | h6 | h6
        ·exact (hno ls[s] (by omega) h6).1 ⟨by rw [e]; exact hv.2, by rw [e]; exact hv.1⟩
        ·rw [← h6] at hh
         exact hh ⟨by rw [e]; exact hv.2, by rw [e]; exact hv.1⟩
        ·refine ho s hs h0 h6 ?_
         refine ((begin_sym hok hs h0 h6 bs (by omega)).1 ?_).symm
         have h7 := hitQ_iff.1 h5
         simp only at h7
         rw [← h7, mod_mod_pow _ (by omega)]
      have hsb : shortB (qcodes ls) bs.length (valB (bs.take 15)) = false := shortB_false fun c hc => by
       cases hb : beginQ bs.length (valB (bs.take 15)) c with
       | false => rfl
       | true =>
        exfalso
        obtain ⟨s, hs, h0, rfl⟩ := mem_qcodes.1 hc
        obtain ⟨h4, h5⟩ := beginQ_iff.1 hb
        simp only at h4 h5
        refine ho s hs h0 (by omega) ?_
        refine ((begin_sym hok hs h0 (by omega) bs (by omega)).1 ?_).symm
        have h6 := congrArg (· % 2 ^ n) h5
        rwa [mod_mod_pow _ (by omega), mod_mod_pow _ (by omega)] at h6
      unfold takeS
      rw [hnm]
      simp only
      rw [hsb]; rfl
     ·rw [if_neg ho]
      refine ih (n + 1) (by omega) (by omega) (by omega) fun k hk1 hk2 => ?_
      rcases Nat.lt_or_ge k n with h6 | h6
      ·exact hno k hk1 h6
      ·obtain rfl : k = n := by omega
       exact ⟨hh, fun h7 => ho (overB_iff.2 h7)⟩
 exact hgo 16 1 (by omega) (by omega) (by omega) fun k h1 h2 => by omega
end Go.Bn
end

section
set_option linter.unusedVariables false
set_option linter.unusedSimpArgs false
namespace Go.Bn
def rW (s : Nat) : Nat := if s = 16 then 2 else if s = 17 then 3 else if s = 18 then 7 else 0
def rL (s : Nat) : Nat := if s = 16 then 3 else if s = 17 then 3 else if s = 18 then 11 else 1
def rH (s : Nat) : Nat := if s = 16 then 6 else if s = 17 then 10 else if s = 18 then 138 else 1
def rV (l : List Nat) (s : Nat) : Nat := if s = 16 then l.getD (l.length - 1) 0 else if 16 < s then 0 else s
def rAdd (l : List Nat) (s m : Nat) : List Nat := l ++ List.replicate m (rV l s)
theorem rW_le (s : Nat) : rW s ≤ 7 := by unfold rW; split <;> (try split) <;> (try split) <;> omega
theorem rL_pos (s : Nat) : 1 ≤ rL s := by unfold rL; split <;> (try split) <;> (try split) <;> omega
theorem rL_num {s n : Nat} (h : n < 2 ^ rW s) : rL s + n ≤ rH s := by
 unfold rW at h; unfold rL rH
 split at h
 ·simp_all; omega
 ·split at h
  ·simp_all; omega
  ·split at h
   ·simp_all; omega
   ·simp_all
theorem rH_le (s : Nat) : rH s ≤ 138 := by unfold rH; split <;> (try split) <;> (try split) <;> omega
theorem rAdd_len (l : List Nat) (s m : Nat) : (rAdd l s m).length = l.length + m := by simp [rAdd]
noncomputable def goT (ls : List Nat) (bs : List Bool) (n : Nat) : Nat → Nat → List Nat → List Nat × Nat × Nat
  | 0, _, _ => ([], 0, 3)
  | f + 1, a, l => if n ≤ l.length then (l, a, 0) else if (takeC ls (bs.drop a)).2.2 ≠ 0 then ([], 0, (takeC ls (bs.drop a)).2.2) else
    if bs.length < a + (takeC ls (bs.drop a)).2.1 + rW (takeC ls (bs.drop a)).1 then ([], 0, 2) else if (takeC ls (bs.drop a)).1 = 16 ∧ l.length = 0 then ([], 0, 3) else
    if n < l.length + (rL (takeC ls (bs.drop a)).1 + numB bs (a + (takeC ls (bs.drop a)).2.1) (rW (takeC ls (bs.drop a)).1)) then ([], 0, 3) else
      goT ls bs n f (a + (takeC ls (bs.drop a)).2.1 + rW (takeC ls (bs.drop a)).1) (rAdd l (takeC ls (bs.drop a)).1 (rL (takeC ls (bs.drop a)).1 + numB bs (a + (takeC ls (bs.drop a)).2.1) (rW (takeC ls (bs.drop a)).1)))
def lens19 (bs : List Bool) (a i : Nat) : List Nat := (List.range 19).map fun k => if k < i then numB bs (a + 4 * k) 4 else 0
theorem lens19_len (bs : List Bool) (a i : Nat) : (lens19 bs a i).length = 19 := by simp [lens19]
theorem lens19_zero (bs : List Bool) (a : Nat) : lens19 bs a 0 = List.replicate 19 0 := by
 refine List.ext_getElem (by simp [lens19]) fun i h1 h2 => ?_
 simp only [lens19, List.getElem_map, List.getElem_range, List.getElem_replicate]
 rw [if_neg (by omega)]
theorem lens19_set {bs : List Bool} {a i : Nat} (hi : i < 19) : (lens19 bs a i).set i (numB bs (a + 4 * i) 4) = lens19 bs a (i + 1) := by
 refine List.ext_getElem (by simp [lens19]) fun k h1 h2 => ?_
 rw [List.getElem_set]
 simp only [lens19, List.getElem_map, List.getElem_range]
 by_cases h : i = k
 ·subst h; rw [if_pos rfl, if_pos (by omega)]
 ·rw [if_neg h]
  by_cases h3 : k < i
  ·rw [if_pos h3, if_pos (by omega)]
  ·rw [if_neg h3, if_neg (by omega)]
def headE (bs : List Bool) (a : Nat) (ok : Bool) : Nat := if bs.length < a + 9 then 2 else if numB bs a 9 < 1 ∨ 320 < numB bs a 9 then 5 else if bs.length < a + 85 then 2 else if ok = true then 0 else 13
noncomputable def takeR (bs : List Bool) (a : Nat) (ok : Bool) : List Nat × Nat × Nat := if headE bs a ok ≠ 0 then ([], 0, headE bs a ok) else goT (lens19 bs (a + 9) 19) bs (numB bs a 9) 321 (a + 85) []
theorem takeC_sym {ls : List Nat} (hok : lensOK ls) {bs : List Bool} (h : (takeC ls bs).2.2 = 0) : ∃ hs : (takeC ls bs).1 < ls.length, ls[(takeC ls bs).1] ≠ 0 ∧ (takeC ls bs).2.1 = ls[(takeC ls bs).1] := by
 rw [takeC_S hok] at h ⊢
 unfold takeS at h ⊢
 cases hf : (qcodes ls).find? (matchQ bs) with
 | none =>
  exfalso
  simp only [hf] at h
  split at h <;> simp at h
 | some c =>
  obtain ⟨s, hs, h0, rfl⟩ := mem_qcodes.1 (List.mem_of_find?_eq_some hf)
  exact ⟨hs, h0, rfl⟩
theorem takeC_pos {ls : List Nat} (hok : lensOK ls) {bs : List Bool} (h : (takeC ls bs).2.2 = 0) : 1 ≤ (takeC ls bs).2.1 := by
 obtain ⟨hs, h0, e⟩ := takeC_sym hok h
 omega
def eqRun (x : Nat) : List Nat → Nat
  | [] => 0
  | y :: r => if y = x then eqRun x r + 1 else 0
theorem eqRun_le (x : Nat) : ∀ l : List Nat, eqRun x l ≤ l.length
 | [] => Nat.le_refl _
 | y :: r => by
  have := eqRun_le x r
  unfold eqRun; split <;> simp <;> omega
theorem eqRun_take {x : Nat} : ∀ {l : List Nat} {m : Nat}, m ≤ eqRun x l → l.take m = List.replicate m x
 | [], m, h => by
  obtain rfl : m = 0 := by simpa [eqRun] using h
  rfl
 | y :: r, 0, h => rfl
 | y :: r, m + 1, h => by
  unfold eqRun at h
  split at h
  ·rename_i he
   rw [List.take_succ_cons, List.replicate_succ, he, eqRun_take (x := x) (l := r) (m := m) (by omega)]
  ·omega
def runAt (l : List Nat) (at_ : Nat) : Nat := eqRun (l.getD at_ 0) (l.drop at_)
theorem runAt_pos {l : List Nat} {at_ : Nat} (h : at_ < l.length) : 1 ≤ runAt l at_ := by
 unfold runAt
 rw [List.drop_eq_getElem_cons h, getD_get h]
 unfold eqRun
 rw [if_pos rfl]; omega
theorem runAt_le (l : List Nat) (at_ : Nat) : runAt l at_ ≤ l.length - at_ := by
 have := eqRun_le (l.getD at_ 0) (l.drop at_)
 rwa [List.length_drop] at this
def partAt (l : List Nat) (at_ : Nat) : Nat × Nat :=
  if l.getD at_ 0 = 0 ∧ 11 ≤ runAt l at_ then (18, min (runAt l at_) 138) else if l.getD at_ 0 = 0 ∧ 3 ≤ runAt l at_ then (17, runAt l at_) else
  if 0 < at_ ∧ l.getD at_ 0 = l.getD (at_ - 1) 0 ∧ 3 ≤ runAt l at_ then (16, min (runAt l at_) 6) else (l.getD at_ 0, 1)
theorem partAt_many {l : List Nat} {at_ : Nat} (h : at_ < l.length) : 1 ≤ (partAt l at_).2 ∧ (partAt l at_).2 ≤ runAt l at_ := by
 have h1 := runAt_pos h
 unfold partAt
 split
 ·simp only; omega
 ·split
  ·simp only; omega
  ·split <;> simp only <;> omega
theorem partAt_fits {l : List Nat} {at_ : Nat} (hb : ∀ x ∈ l, x ≤ 15) (h : at_ < l.length) : (partAt l at_).1 < 19 ∧ rL (partAt l at_).1 ≤ (partAt l at_).2 ∧ (partAt l at_).2 ≤ rH (partAt l at_).1 ∧ ((partAt l at_).1 = 16 → 0 < at_) := by
 have hx := hb l[at_] (List.getElem_mem h)
 rw [← getD_get h] at hx
 unfold partAt
 split
 ·exact ⟨by show 18 < 19; omega, by show 11 ≤ _; omega, by show _ ≤ 138; omega, fun k => by cases k⟩
 ·split
  ·exact ⟨by show 17 < 19; omega, by show 3 ≤ _; omega, by show _ ≤ 10; omega, fun k => by cases k⟩
  ·split
   ·exact ⟨by show 16 < 19; omega, by show 3 ≤ _; omega, by show _ ≤ 6; omega, fun _ => by omega⟩
   ·refine ⟨by simp only; omega, ?_, ?_, fun k => by simp only at k; omega⟩
    ·simp only; unfold rL; rw [if_neg (by omega), if_neg (by omega), if_neg (by omega)]; exact Nat.le_refl _
    ·simp only; unfold rH; rw [if_neg (by omega), if_neg (by omega), if_neg (by omega)]; exact Nat.le_refl _
theorem partAt_add {l : List Nat} {at_ : Nat} (hb : ∀ x ∈ l, x ≤ 15) (h : at_ < l.length) : rAdd (l.take at_) (partAt l at_).1 (partAt l at_).2 = l.take (at_ + (partAt l at_).2) := by
 have hm := partAt_many h
 have hv : rV (l.take at_) (partAt l at_).1 = l.getD at_ 0 := by
  have hx := hb l[at_] (List.getElem_mem h)
  rw [← getD_get h] at hx
  unfold partAt
  split
  ·rename_i hh; rw [hh.1]; rfl
  ·split
   ·rename_i hh; rw [hh.1]; rfl
   ·split
    ·rename_i hh
     unfold rV
     rw [if_pos rfl, List.length_take, Nat.min_eq_left (by omega), hh.2.1, List.getD, List.getElem?_take, if_pos (by omega)]; rfl
    ·unfold rV
     rw [if_neg (by simp only; omega), if_neg (by simp only; omega)]
 unfold rAdd
 rw [hv, List.take_add]
 congr 1
 exact (eqRun_take hm.2).symm
def partsF (l : List Nat) : Nat → Nat → List (Nat × Nat)
  | 0, _ => []
  | f + 1, at_ => if at_ < l.length then partAt l at_ :: partsF l f (at_ + (partAt l at_).2) else []
theorem partsF_fuel (l : List Nat) : ∀ (f g at_ : Nat), l.length ≤ at_ + f → l.length ≤ at_ + g → partsF l f at_ = partsF l g at_
 | 0, 0, _, _, _ => rfl
 | 0, g + 1, at_, h, _ => by rw [partsF, partsF, if_neg (by omega)]
 | f + 1, 0, at_, _, h => by rw [partsF, partsF, if_neg (by omega)]
 | f + 1, g + 1, at_, h1, h2 => by
  rw [partsF, partsF]
  by_cases h : at_ < l.length
  ·have := partAt_many h
   rw [if_pos h, if_pos h, partsF_fuel l f g _ (by omega) (by omega)]
  ·rw [if_neg h, if_neg h]
def partsL (l : List Nat) (at_ : Nat) : List (Nat × Nat) := partsF l (l.length - at_) at_
theorem partsL_end {l : List Nat} {at_ : Nat} (h : l.length ≤ at_) : partsL l at_ = [] := by
 unfold partsL
 rw [show l.length - at_ = 0 by omega]; rfl
theorem partsL_cons {l : List Nat} {at_ : Nat} (h : at_ < l.length) : partsL l at_ = partAt l at_ :: partsL l (at_ + (partAt l at_).2) := by
 unfold partsL
 have := partAt_many h
 rw [show l.length - at_ = (l.length - at_ - 1) + 1 by omega, partsF, if_pos h, partsF_fuel l (l.length - at_ - 1) (l.length - (at_ + (partAt l at_).2)) _ (by omega) (by omega)]
end Go.Bn
end

section
set_option linter.unusedVariables false
set_option linter.unusedSimpArgs false
namespace Go.Bn
open Go
section
variable {P : Program} {E : Env} {hp : Heap} {cl : Cls} {d : Option Tmp} {ty : TypeId} {pos : String} {af : Array Edge} {g : Option (Nat × Bool)}
variable {x y z : Operand} {t t' : TypeId}
theorem opl_store_rows {B : Nat} {h0 : Heap} {rs : List Res} (st : St B h0 hp rs) (j : Nat) {gb o e sz n c : Nat} {vs us : List Value} {ua : Array Value} (hj : rs[j]? = some (row e sz (.slice (some ⟨gb, 0, none⟩) n c) vs)) (hx : ev E x = some (.pointer (some ⟨gb, o, none⟩))) (hy : ev E y = some (.agg ua))
  (hu : ua.toList = us) (ht : aggN P t = some us.length) (h1 : ∀ u ∈ us, Value.one u = true) (hle : o + us.length ≤ vs.length) :
  OpL P ⟨d, .store t x y, ty, pos, af, g⟩ E hp (fun _ hp' => St B h0 hp' (rs.set j (row e sz (.slice (some ⟨gb, 0, none⟩) n c) (vs.take o ++ us ++ vs.drop (o + us.length))))) := by
 obtain rfl : ua = us.toArray := by rw [← hu]
 obtain ⟨S, hr, _⟩ := st.at_ hj
 intro m a w ho hw K hK
 subst hw
 rcases hr with ⟨hh, _⟩ | ⟨g', n', cap, cur, fr, hh, h2, h3, h4, h5, h6, h7, h8, hS⟩
 ·cases hh
 ·cases hh
  have hvl : vs.length ≤ cur.size := by rw [h7, h5]; exact Nat.mul_le_mul_right _ h3
  obtain ⟨w', hr, hi, hs, hother, hthere⟩ := run_storeCells (P := P) (p := gb) (o := o) us 0 cur w h1 h2 (by omega) h8
  have hrun : (execOp a.eval ⟨d, .store t x y, ty, pos, af, g⟩).run P w = .ok .skip w' := by
   simp [execOp, ho.eval hx, ho.eval hy, Instr.storeAt, Instr.sureAddr, storeVar, Value.cells, run_sizeOf_agg ht, hr]
  simp only [Oper.wp, hrun, Oper.upon]
  refine hK _ _ hi (st.upd hj ⟨by rw [hs]; exact Nat.le_refl _, fun S' hS' => ?_⟩)
  rcases hS' with ⟨hh, _⟩ | ⟨g', n', cap', cur', fr', hh, k2, k3, k4, k5, k6, k7, k8, kS⟩
  ·cases hh
  ·cases hh
   rw [h2] at k2
   cases k2
   refine ⟨S', .inr ⟨gb, n, c, _, fr, rfl, by rw [hthere], h3, h4, ?_, ?_, ?_, ?_, kS⟩, fun k hk => .inl hk, fun k _ hk => hother k (fun e => hk ((kS k).2 e))⟩
   ·simp only [List.size_toArray, List.length_append, List.length_take, List.length_drop, Array.length_toList, Nat.add_zero]; omega
   ·rw [List.append_assoc, List.append_assoc, ← h6]
    simp only [Nat.add_zero]
    rw [List.take_append, List.take_take, List.length_take, Array.length_toList, Nat.min_eq_right (by omega), Nat.min_eq_left (by omega : o ≤ cur.size), List.take_append, List.take_of_length_le (by omega : us.length ≤ n * sz - o)]
    rw [List.take_take, Nat.min_eq_left (by omega : o ≤ n * sz), List.drop_take, Nat.sub_sub]
   ·simp only [List.length_append, List.length_take, List.length_drop]; omega
   ·have : (List.take (o + 0) cur.toList ++ us ++ List.drop (o + 0 + us.length) cur.toList).toArray.size = cur.size := by
     simp only [List.size_toArray, List.length_append, List.length_take, List.length_drop, Array.length_toList, Nat.add_zero]; omega
    rw [this]; exact h8
theorem opl_varA {e sz b : Nat} {zs us : List Value} {ua : Array Value} (hx : ev E x = some (.agg ua)) (ht : sliceI P t = some (e, sz, b, zs)) (hn : Nat.ble (1 * sz) 16777216 = true) (hs : Nat.blt 0 (1 * sz) = true) (hc : sliceCells 1 sz zs [(0, .agg ua)] = some us.toArray) :
  OpL P ⟨d, .buildSlice t 1 #[(0, x)], ty, pos, af, g⟩ E hp (fun u hp' => ∃ A, u = .slice A 1 1 ∧ Ext hp hp' ∧ Rd hp' A us) := by
 intro n a w ho hw K hK
 have hps : evP E (#[(0, x)] : Array (Nat × Operand)).toList = some [(0, .agg ua)] := by simp [evP, hx]
 exact opl_buildSlice hps ht hn hs hc n a w ho hw K fun v' w' hi ⟨h1, h2⟩ => hK v' w' hi ⟨_, h1, by rw [h2]; exact ext_push _ _, by rw [h2]; exact rd_push _ _ _⟩
theorem op_orS {m n : Nat} (hx : ev E x = some (.int .i64 (m : Int))) (hy : ev E y = some (.int .i64 (n : Int))) (hm : m < 2 ^ 63) (hn : n < 2 ^ 63) : Op1 cl P ⟨d, .binOp .or t x y t', ty, pos, af, g⟩ E hp (.int .i64 ((m ||| n : Nat) : Int)) := by
 have := op_or (cl := cl) (P := P) (hp := hp) (d := d) (ty := ty) (pos := pos) (af := af) (g := g) (t := t) (t' := t') hx hy
 rw [bitsOp_nat .or m n (by simp only [IntKind.bits]; omega) (by simp only [IntKind.bits]; omega)] at this
 simp only at this
 have h3 := Nat.or_lt_two_pow hm hn
 rwa [wrap_in (by simp only [inK]; omega)] at this
def mapI (P : Program) (t : TypeId) : Bool :=
  match P.underlying t with
  | some (.map k _) => match P.underlying k with
    | some (.int .i64) => true
    | _ => false
  | _ => false
theorem mapI_spec (h : mapI P t = true) : ∃ k e, P.underlying t = some (.map k e) ∧ P.underlying k = some (.int .i64) := by
 unfold mapI at h
 split at h
 ·rename_i k e hu
  split at h
  ·rename_i hk; exact ⟨k, e, hu, hk⟩
  ·cases h
 ·cases h
theorem run_checkKey_int {kt : TypeId} {b : Bool} {k : Int} {w : World} (hk : P.underlying kt = some (.int .i64)) : (Instr.checkKey b 10000 kt (.int .i64 k)).run P w = .ok () w := by
 exact MapKept.run_checkKey hk (by simp [MapKept.IsKey]) b 9999
end
end Go.Bn
end

section
set_option linter.unusedVariables false
namespace Go.Bn
open Go
theorem flat_get {α : Type} (f : α → List Value) (s : Nat) (hf : ∀ x, (f x).length = s) : ∀ (l : List α) (i j : Nat) (hi : i < l.length), j < s → (l.flatMap f)[i * s + j]? = (f l[i])[j]?
 | x :: r, 0, j, _, hj => by
  rw [List.flatMap_cons, Nat.zero_mul, Nat.zero_add, List.getElem?_append_left (by rw [hf]; exact hj)]; rfl
 | x :: r, i + 1, j, hi, hj => by
  rw [List.flatMap_cons, List.getElem?_append_right (by rw [hf, Nat.add_mul, Nat.one_mul]; omega), hf, show (i + 1) * s + j - s = i * s + j by rw [Nat.add_mul, Nat.one_mul]; omega]
  exact flat_get f s hf r i j (by simpa using hi) hj
theorem flat_length {α : Type} (f : α → List Value) (s : Nat) (hf : ∀ x, (f x).length = s) (l : List α) : (l.flatMap f).length = l.length * s := by
 induction l with
 | nil => simp
 | cons x r ih => rw [List.flatMap_cons, List.length_append, hf, ih, List.length_cons, Nat.add_mul, Nat.one_mul]; omega
theorem Rd.flat {α : Type} {hp : Heap} {A : Option Addr} {l : List α} (f : α → List Value) (s : Nat) (h : Rd hp A (l.flatMap f)) (hf : ∀ x, (f x).length = s) (hs : 0 < s) (hl : 0 < l.length) :
  ∃ b o, A = some ⟨b, o, none⟩ ∧ ∀ i (hi : i < l.length) j v, (f l[i])[j]? = some v → cellH hp ⟨b, o + i * s + j, none⟩ = some v := by
 obtain ⟨b, o, e, hc⟩ := h.at_ (by rw [flat_length f s hf]; exact Nat.mul_pos hl hs)
 refine ⟨b, o, e, fun i hi j v hv => ?_⟩
 have hj : j < s := by
  have := (List.getElem?_eq_some_iff.1 hv).1
  rwa [hf] at this
 have := hc (i * s + j) v (by rw [flat_get f s hf l i j hi hj]; exact hv)
 rwa [← Nat.add_assoc] at this
end Go.Bn
end

section
namespace Go.Bn
open Go Go.ChangeShapes Go.WideShapes
theorem addr_of_cell {w : World} {x : Addr} {v : Value} (h : w.cell? (x.add 0) = some v) : x = ⟨x.block, x.off, none⟩ := by
 rw [addr_zero] at h
 unfold World.cell? at h
 split at h
 ·cases hs : x.spot with
  | none => cases x; simp_all
  | some s => rw [hs] at h; simp at h
 ·cases h
theorem rd_of_cells {W : World} {x : Addr} {vs : List Value} (hc : ∀ i u, vs[i]? = some u → W.cell? (x.add i) = some u) : Rd W.heap (some x) vs := by
 cases vs with
 | nil => exact .inl rfl
 | cons v r =>
  have h0 := addr_of_cell (hc 0 v rfl)
  refine .inr ⟨x.block, x.off, by rw [← h0], fun i u hu => ?_⟩
  have := hc i u hu
  rw [h0, addr_add] at this
  exact this
section
variable {H : Type} {enc : TypeId × Value → H} {P : Program} {W : World} {base : Nat} {spare : Nat → Bool} {held : Bool} {t e : TypeId} {a : Option Addr} {len cap : Nat} {d : DataW H} {ps : List MemPlace}
theorem arg_ints {k : IntKind} (hu : P.underlying t = some (.slice e)) (he : P.underlying e = some (.int k)) (hc : P.cellsOf e = 1) (h : DataW.Trod enc P W base spare held t (.slice a len cap) d ps) :
  ∃ l : List Int, l.length = len ∧ len ≤ cap ∧ cap ≤ maxLen ∧ Rd W.heap a (l.map (Value.int k)) ∧ ∀ n ∈ l, (Lit.int k n).wf = true := by
 obtain ⟨fuel, hf⟩ := h
 rcases open_ints hu he hc hf with ⟨hcs, _⟩ | ⟨x, l, c, zs, hcs, _, hl, hm, hz, _, hcell, hwz⟩
 ·simp [Value.cells] at hcs
  obtain ⟨rfl, rfl, rfl⟩ := hcs
  exact ⟨[], rfl, Nat.le_refl _, by simp [maxLen], .inl rfl, by simp⟩
 ·simp [Value.cells] at hcs
  obtain ⟨rfl, rfl, rfl⟩ := hcs
  have hl2 : len ≤ zs.length := by rw [hz]; split <;> omega
  refine ⟨zs.take len, by simp; omega, hl, hm, rd_of_cells fun i u hu => ?_, fun n hn => hwz n (List.mem_of_mem_take hn)⟩
  have hi : i < len := by
   have := (List.getElem?_eq_some_iff.1 hu).1
   simp at this; omega
  rw [hcell i (by omega)]
  rw [List.getElem?_map, List.getElem?_take, if_pos hi] at hu
  simp only [List.getD_eq_getElem?_getD]
  rw [List.getElem?_eq_getElem (show i < zs.length by omega)] at hu ⊢
  simpa using hu
theorem arg_bytes (hu : P.underlying t = some (.slice e)) (he : P.underlying e = some (.int .u8)) (hc : P.cellsOf e = 1) (h : DataW.Trod enc P W base spare held t (.slice a len cap) d ps) :
  ∃ l : List UInt8, l.length = len ∧ len ≤ cap ∧ cap ≤ maxLen ∧ Rd W.heap a (l.map byteV) := by
 obtain ⟨l, h1, h2, h3, h4, h5⟩ := arg_ints hu he hc h
 refine ⟨l.map fun z => UInt8.ofNat z.toNat, by simpa using h1, h2, h3, ?_⟩
 have e : (l.map fun z => UInt8.ofNat z.toNat).map byteV = l.map (Value.int .u8) := by
  rw [List.map_map]
  refine List.map_congr_left fun z hz => ?_
  have hw := h5 z hz
  have hb : 0 ≤ z ∧ z ≤ 255 := bounds_u8 hw
  simp only [Function.comp, byteV]
  congr 1
  have : (UInt8.ofNat z.toNat).toNat = z.toNat := by simp; omega
  rw [this]; omega
 rw [e]; exact h4
theorem arg_size {k : IntKind} {ts : List TypeId} {ds : List (DataW H)} {j : Nat} (hsz : (DataW.weightsEach P ts ds).all (· ≤ reachBytes) = true) (ht : ts[j]? = some t) (hd : ds[j]? = some d) (hu : P.underlying t = some (.slice e)) (he : P.underlying e = some (.int k))
  (hc : P.cellsOf e = 1) {B : Nat} (hB : P.bytesOf e = B) (h : DataW.Trod enc P W base spare held t (.slice a len cap) d ps) : len * B ≤ 140737488351232 := by
 obtain ⟨fuel, hf⟩ := h
 rcases open_ints hu he hc hf with ⟨hcs, _⟩ | ⟨x, l, c, zs, hcs, _, hl, _, hz, hx, _, _⟩
 ·simp [Value.cells] at hcs
  obtain ⟨rfl, rfl, rfl⟩ := hcs
  simp
 ·simp [Value.cells] at hcs
  obtain ⟨rfl, rfl, rfl⟩ := hcs
  obtain ⟨hx, _⟩ := Prod.mk.inj hx
  subst hx
  have z := sized_slice hsz ht hd hu
  rw [hB] at z
  have hl2 : len ≤ zs.length := by rw [hz]; split <;> omega
  have h1 : (lits (H := H) k (zs.take len)).length + (lits (H := H) k (zs.drop len)).length = zs.length := by
   simp [lits]; omega
  rw [h1] at z
  exact Nat.le_trans (Nat.mul_le_mul_right _ hl2) z
theorem wf_in {k : IntKind} {n : Int} (h : (Lit.int k n).wf = true) : inK k n := by
 cases k
 ·exact bounds_i8 h
 ·exact bounds_i16 h
 ·exact bounds_i32 h
 ·exact bounds_i64 h
 ·exact bounds_u8 h
 ·exact bounds_u16 h
 ·exact bounds_u32 h
 ·exact bounds_u64 h
end
end Go.Bn
end

section
set_option linter.unusedVariables false
namespace Go.Bn
open Go Go.ChangeShapes Go.WideShapes Go.Deep
section
variable {H : Type} {enc : TypeId × Value → H} {P : Program} {W : World} {base : Nat} {spare : Nat → Bool} {held : Bool} {t e : TypeId} {a : Option Addr} {len cap : Nat} {d : DataW H} {ps : List MemPlace}
end
inductive Kd where
  | i (k : IntKind)
  | b
def Kd.ok : Kd → Value → Prop
  | .i k, v => ∃ n, v = .int k n ∧ inK k n
  | .b, v => ∃ x, v = .bool x
section
variable {H : Type} {enc : TypeId × Value → H} {P : Program} {W : World} {base : Nat} {spare : Nat → Bool} {held : Bool}
end
end Go.Bn
end
