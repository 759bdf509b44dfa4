/- Packed texts of a claim: what its theorem uses, joined. -/
import Derived.Test.YtoodeecmplpndaaGreatPkCdc6
section
set_option linter.unusedVariables false
set_option linter.unusedSimpArgs false
set_option maxHeartbeats 4000000
set_option maxRecDepth 20000
namespace Go.Bn
open Go Proofs
theorem bounds_spec (s : Nat) (h0 : Heap) : Ret Tryz.prog 123 [nV s] h0 fun v h' => v = retVal [nV (rL s), nV (rH s), nV (rW s)] ∧ h0 = h' := by
 refine ret_of_X Tryz.func123 rfl rfl fun w0 hw0 => ?_
 simp only [argE, Nat.zero_add, Nat.reduceAdd]
 refine X_seq (X_reg (XA rfl rfl rfl (XA rfl rfl rfl (XA rfl rfl rfl (XR_nil (X_seq (X_seq (X_reg (XV rfl rfl rfl ?_)))))))))
 refine XR_nil (X_block (X_seq (X_reg ?_)))
 refine XR_a (op_eql rfl rfl) rfl rfl ?_
 refine XA rfl rfl rfl (XR_nil ?_)
 refine X_if rfl (fun h => ?_) (fun h => ?_)
 ·refine X_seq (X_reg (XA rfl rfl rfl (XA rfl rfl rfl (XA rfl rfl rfl (XR_nil ?_)))))
  refine X_ret (.cons (.tmp rfl) (.cons (.tmp rfl) (.cons (.tmp rfl) .nil))) ?_
  obtain rfl : s = 16 := by omega
  exact ⟨rfl, rfl⟩
 ·refine X_seq (X_reg ?_)
  refine XR_a (op_eql rfl rfl) rfl rfl ?_
  refine XA rfl rfl rfl (XR_nil ?_)
  refine X_if rfl (fun h => ?_) (fun h => ?_)
  ·refine X_seq (X_reg (XA rfl rfl rfl (XA rfl rfl rfl (XA rfl rfl rfl (XR_nil ?_)))))
   refine X_ret (.cons (.tmp rfl) (.cons (.tmp rfl) (.cons (.tmp rfl) .nil))) ?_
   obtain rfl : s = 17 := by omega
   exact ⟨rfl, rfl⟩
  ·refine X_seq (X_reg ?_)
   refine XR_a (op_eql rfl rfl) rfl rfl ?_
   refine XA rfl rfl rfl (XR_nil ?_)
   refine X_if rfl (fun h => ?_) (fun h => ?_)
   ·refine X_seq (X_reg (XA rfl rfl rfl (XA rfl rfl rfl (XA rfl rfl rfl (XR_nil ?_)))))
    refine X_ret (.cons (.tmp rfl) (.cons (.tmp rfl) (.cons (.tmp rfl) .nil))) ?_
    obtain rfl : s = 18 := by omega
    exact ⟨rfl, rfl⟩
   ·refine X_skip (X_blk (X_seq (X_reg (XA rfl rfl rfl (XA rfl rfl rfl (XA rfl rfl rfl (XR_nil ?_)))))))
    refine X_ret (.cons (.tmp rfl) (.cons (.tmp rfl) (.cons (.tmp rfl) .nil))) ?_
    unfold rL rH rW
    simp only [if_neg (show ¬ s = 16 by omega), if_neg (show ¬ s = 17 by omega), if_neg (show ¬ s = 18 by omega)]
    exact ⟨rfl, trivial⟩
theorem extra_ref (s : Nat) (h0 : Heap) : Ret Tryz.prog 70 [nV s] h0 fun v h' => v = retVal [nV (rW s), nV (rL s)] ∧ h0 = h' := by
 refine ret_of_X Tryz.func70 rfl rfl fun w0 hw0 => ?_
 simp only [argE, Nat.zero_add, Nat.reduceAdd]
 refine X_seq (X_reg (XA rfl rfl rfl (XA rfl rfl rfl (XR_nil (X_seq (X_seq (X_reg (XV rfl rfl rfl (XR_nil ?_)))))))))
 refine X_block (X_seq (X_reg ?_))
 refine XR_a (op_eql rfl rfl) rfl rfl ?_
 refine XA rfl rfl rfl (XR_nil ?_)
 refine X_if rfl (fun h => ?_) (fun h => ?_)
 ·refine X_seq (X_reg (XA rfl rfl rfl (XA rfl rfl rfl (XR_nil ?_))))
  refine X_ret (.cons (.tmp rfl) (.cons (.tmp rfl) .nil)) ?_
  obtain rfl : s = 16 := by omega
  exact ⟨rfl, rfl⟩
 ·refine X_seq (X_reg ?_)
  refine XR_a (op_eql rfl rfl) rfl rfl ?_
  refine XA rfl rfl rfl (XR_nil ?_)
  refine X_if rfl (fun h => ?_) (fun h => ?_)
  ·refine X_seq (X_reg (XA rfl rfl rfl (XA rfl rfl rfl (XR_nil ?_))))
   refine X_ret (.cons (.tmp rfl) (.cons (.tmp rfl) .nil)) ?_
   obtain rfl : s = 17 := by omega
   exact ⟨rfl, rfl⟩
  ·refine X_seq (X_reg ?_)
   refine XR_a (op_eql rfl rfl) rfl rfl ?_
   refine XA rfl rfl rfl (XR_nil ?_)
   refine X_if rfl (fun h => ?_) (fun h => ?_)
   ·refine X_seq (X_reg (XA rfl rfl rfl (XA rfl rfl rfl (XR_nil ?_))))
    refine X_ret (.cons (.tmp rfl) (.cons (.tmp rfl) .nil)) ?_
    obtain rfl : s = 18 := by omega
    exact ⟨rfl, rfl⟩
   ·refine X_skip (X_blk (X_seq (X_reg (XA rfl rfl rfl (XA rfl rfl rfl (XR_nil ?_))))))
    refine X_ret (.cons (.tmp rfl) (.cons (.tmp rfl) .nil)) ?_
    unfold rL rW
    simp only [if_neg (show ¬ s = 16 by omega), if_neg (show ¬ s = 17 by omega), if_neg (show ¬ s = 18 by omega)]
    exact ⟨rfl, trivial⟩
@[reducible] def uV (x : Nat) : Value := .int .u64 (x : Int)
theorem uV_eq {x y : Nat} (h : x = y) : uV x = uV y := by rw [h]
theorem mul64_spec (m : Nat) (h0 : Heap) (hm : m < 4294967296) : Ret Tryz.prog 172 [uV 1, uV m] h0 fun v h' => v = retVal [uV 0, uV m] ∧ h0 = h' := by
 refine ret_of_X Tryz.func172 rfl rfl fun w0 hw0 => ?_
 simp only [argE, Nat.zero_add, Nat.reduceAdd]
 refine X_seq (X_reg (XA rfl rfl rfl (XA rfl rfl rfl (XR_nil (X_seq (X_reg (XV rfl rfl rfl ?_)))))))
 first | refine XR_a (op_andN (n := 4294967295) rfl rfl rfl (by simp only [IntKind.bits]; omega) (by simp only [IntKind.bits]; omega)) rfl rfl ?_ | refine XR_a (op_and rfl rfl) rfl rfl ?_
 refine XR_as (uV 1) rfl ?_
 refine XA rfl rfl rfl (XR_nil (X_seq (X_reg (XV rfl rfl rfl ?_))))
 first | refine XR_a (op_shrC 32 rfl rfl (by decide)) rfl rfl ?_ | refine XR_a (op_shrN 32 rfl rfl (by decide)) rfl rfl ?_
 refine XR_as (uV 0) rfl ?_
 refine XA rfl rfl rfl (XR_nil (X_seq (X_reg (XV rfl rfl rfl ?_))))
 refine XR_a (op_andN (m := m) (n := 4294967295) rfl rfl rfl (by simp only [IntKind.bits]; omega) (by simp only [IntKind.bits]; omega)) rfl rfl ?_
 refine XR_as (uV m) (uV_eq (by rw [show 4294967295 = 2 ^ 32 - 1 from rfl, Nat.and_two_pow_sub_one_eq_mod]; omega)) ?_
 refine XA rfl rfl rfl (XR_nil (X_seq (X_reg (XV rfl rfl rfl ?_))))
 first | refine XR_a (op_shrC 32 rfl rfl (by decide)) rfl rfl ?_ | refine XR_a (op_shrN 32 rfl rfl (by decide)) rfl rfl ?_
 refine XR_as (uV 0) (uV_eq (Nat.div_eq_of_lt (by omega))) ?_
 refine XA rfl rfl rfl (XR_nil (X_seq (X_reg (XV rfl rfl rfl (XV rfl rfl rfl ?_)))))
 first | refine XR_a (op_mulN rfl rfl (by simp only [inK]; omega)) rfl rfl ?_ | refine XR_a (op_mulI rfl rfl (by simp only [inK]; omega)) rfl rfl ?_ | refine XR_a (op_mul rfl rfl) rfl rfl ?_
 refine XR_as (uV m) (uV_eq (by omega)) ?_
 refine XA rfl rfl rfl (XR_nil (X_seq (X_reg (XV rfl rfl rfl (XV rfl rfl rfl ?_)))))
 first | refine XR_a (op_mulN rfl rfl (by simp only [inK]; omega)) rfl rfl ?_ | refine XR_a (op_mulI rfl rfl (by simp only [inK]; omega)) rfl rfl ?_ | refine XR_a (op_mul rfl rfl) rfl rfl ?_
 refine XR_as (uV 0) (uV_eq (by omega)) ?_
 refine XV rfl rfl rfl ?_
 first | refine XR_a (op_shrC 32 rfl rfl (by decide)) rfl rfl ?_ | refine XR_a (op_shrN 32 rfl rfl (by decide)) rfl rfl ?_
 refine XR_as (uV 0) (uV_eq (Nat.div_eq_of_lt (by omega))) ?_
 first | refine XR_a (op_addN rfl rfl (by simp only [inK]; omega)) rfl rfl ?_ | refine XR_a (op_addI rfl rfl (by simp only [inK]; omega)) rfl rfl ?_ | refine XR_a (op_add rfl rfl) rfl rfl ?_
 refine XR_as (uV 0) rfl ?_
 refine XA rfl rfl rfl (XR_nil (X_seq (X_reg (XV rfl rfl rfl ?_))))
 first | refine XR_a (op_andN (n := 4294967295) rfl rfl rfl (by simp only [IntKind.bits]; omega) (by simp only [IntKind.bits]; omega)) rfl rfl ?_ | refine XR_a (op_and rfl rfl) rfl rfl ?_
 refine XR_as (uV 0) rfl ?_
 refine XA rfl rfl rfl (XR_nil (X_seq (X_reg (XV rfl rfl rfl ?_))))
 first | refine XR_a (op_shrC 32 rfl rfl (by decide)) rfl rfl ?_ | refine XR_a (op_shrN 32 rfl rfl (by decide)) rfl rfl ?_
 refine XR_as (uV 0) rfl ?_
 refine XA rfl rfl rfl (XR_nil (X_seq (X_reg (XV rfl rfl rfl (XV rfl rfl rfl (XV rfl rfl rfl ?_))))))
 first | refine XR_a (op_mulN rfl rfl (by simp only [inK]; omega)) rfl rfl ?_ | refine XR_a (op_mulI rfl rfl (by simp only [inK]; omega)) rfl rfl ?_ | refine XR_a (op_mul rfl rfl) rfl rfl ?_
 refine XR_as (uV 0) rfl ?_
 first | refine XR_a (op_addN rfl rfl (by simp only [inK]; omega)) rfl rfl ?_ | refine XR_a (op_addI rfl rfl (by simp only [inK]; omega)) rfl rfl ?_ | refine XR_a (op_add rfl rfl) rfl rfl ?_
 refine XR_as (uV 0) rfl ?_
 refine XA rfl rfl rfl (XR_nil (X_seq (X_reg (XV rfl rfl rfl (XV rfl rfl rfl ?_)))))
 first | refine XR_a (op_mulN rfl rfl (by simp only [inK]; omega)) rfl rfl ?_ | refine XR_a (op_mulI rfl rfl (by simp only [inK]; omega)) rfl rfl ?_ | refine XR_a (op_mul rfl rfl) rfl rfl ?_
 refine XR_as (uV 0) rfl ?_
 refine XV rfl rfl rfl ?_
 first | refine XR_a (op_addN rfl rfl (by simp only [inK]; omega)) rfl rfl ?_ | refine XR_a (op_addI rfl rfl (by simp only [inK]; omega)) rfl rfl ?_ | refine XR_a (op_add rfl rfl) rfl rfl ?_
 refine XR_as (uV 0) rfl ?_
 refine XV rfl rfl rfl ?_
 first | refine XR_a (op_shrC 32 rfl rfl (by decide)) rfl rfl ?_ | refine XR_a (op_shrN 32 rfl rfl (by decide)) rfl rfl ?_
 refine XR_as (uV 0) rfl ?_
 first | refine XR_a (op_addN rfl rfl (by simp only [inK]; omega)) rfl rfl ?_ | refine XR_a (op_addI rfl rfl (by simp only [inK]; omega)) rfl rfl ?_ | refine XR_a (op_add rfl rfl) rfl rfl ?_
 refine XR_as (uV 0) rfl ?_
 refine XA rfl rfl rfl (XR_nil (X_seq (X_reg (XV rfl rfl rfl (XV rfl rfl rfl ?_)))))
 first | refine XR_a (op_mulN rfl rfl (by simp only [inK]; omega)) rfl rfl ?_ | refine XR_a (op_mulI rfl rfl (by simp only [inK]; omega)) rfl rfl ?_ | refine XR_a (op_mul rfl rfl) rfl rfl ?_
 refine XR_as (uV m) (uV_eq (by omega)) ?_
 refine XA rfl rfl rfl (XR_nil ?_)
 refine X_ret (.cons (.tmp rfl) (.cons (.tmp rfl) .nil)) ?_
 exact ⟨rfl, rfl⟩
theorem mul_spec (m : Nat) (h0 : Heap) (hm : m < 4294967296) : Ret Tryz.prog 160 [uV 1, uV m] h0 fun v h' => v = retVal [uV 0, uV m] ∧ h0 = h' := by
 refine ret_of_X Tryz.func160 rfl rfl fun w0 hw0 => ?_
 simp only [argE, Nat.zero_add, Nat.reduceAdd]
 refine X_seq (X_reg (XA rfl rfl rfl (XA rfl rfl rfl (XR_nil (X_seq (X_else rfl (X_skip (X_seq (X_reg ?_)))))))))
 refine XV rfl rfl rfl (XV rfl rfl rfl ?_)
 refine XR_wa (opl_call (mul64_spec m _ hm) rfl (by kernel_rfl)) rfl rfl rfl ?_
 rintro _ _ ⟨rfl, rfl⟩
 refine XV rfl rfl rfl (XR_a (op_extract rfl rfl) rfl rfl (XR_a (op_extract rfl rfl) rfl rfl (XA rfl rfl rfl (XA rfl rfl rfl (XR_nil (X_seq (X_reg (XV rfl rfl rfl (XV rfl rfl rfl ?_)))))))))
 refine XA rfl rfl rfl (XA rfl rfl rfl (XR_nil ?_))
 refine X_ret (.cons (.tmp rfl) (.cons (.tmp rfl) .nil)) ?_
 exact ⟨rfl, rfl⟩
theorem rep_copy {x k m : Nat} (h1 : k ≤ m) : (((List.replicate k x ++ List.replicate (m - k) 0).map nV).take k ++ ((List.replicate k x).map nV).take (min k (m - k) * 1) ++ ((List.replicate k x ++ List.replicate (m - k) 0).map nV).drop (k + min k (m - k) * 1)) = (List.replicate (k + min k (m - k)) x ++ List.replicate (m - (k + min k (m - k))) 0).map nV := by
 rw [Nat.mul_one, ← List.map_take, ← List.map_take, ← List.map_drop, ← List.map_append, ← List.map_append]
 congr 1
 rw [List.take_append_of_le_length (by simp), List.take_of_length_le (by simp), List.take_replicate, List.drop_append, List.drop_of_length_le (by rw [List.length_replicate]; omega), List.nil_append, List.drop_replicate, List.length_replicate]
 rw [Nat.min_eq_left (Nat.min_le_left _ _), ← List.replicate_append_replicate]
 congr 2
 omega
theorem repeat_spec {c x m : Nat} {A : Option Addr} {h0 : Heap} (hr : Rd h0 A [nV x]) (hm1 : 1 ≤ m) (hm : m ≤ 65536) :
  Ret Tryz.prog 133 [.slice A 1 c, nV m] h0 fun v h' => St h0.size h0 h' [row 3 1 v ((List.replicate m x).map nV)] := by
 refine ret_of_X Tryz.func133 rfl rfl fun w0 hw0 => ?_
 simp only [argE, Nat.zero_add, Nat.reduceAdd]
 have st := St.start h0
 refine X_seq (X_reg (XA rfl rfl rfl (XR_nil (X_seq (X_seq (X_reg (XV rfl rfl rfl ?_)))))))
 refine XR_a (op_lss rfl rfl) rfl rfl ?_
 refine XR_nil ?_
 refine X_if rfl (fun h => ?_) (fun h => ?_)
 ·exact absurd h (by omega)
 ·refine X_skip (X_seq (X_reg (XV rfl rfl rfl ?_)))
  refine XR_a (op_len rfl rfl rfl) rfl rfl ?_
  first | refine XR_a (op_convI rfl rfl (by simp only [inK]; omega)) rfl rfl ?_ | refine XR_a (op_convU rfl rfl rfl) rfl rfl ?_ | refine XR_a (op_conv rfl rfl) rfl rfl ?_
  refine XV rfl rfl rfl ?_
  first | refine XR_a (op_convI rfl rfl (by simp only [inK]; omega)) rfl rfl ?_ | refine XR_a (op_convU rfl rfl rfl) rfl rfl ?_ | refine XR_a (op_conv rfl rfl) rfl rfl ?_
  refine XR_wa (opl_call (mul_spec m _ (by omega)) rfl (by kernel_rfl)) rfl rfl rfl ?_
  rintro _ _ ⟨rfl, rfl⟩
  refine XV rfl rfl rfl (XR_a (op_extract rfl rfl) rfl rfl (XR_a (op_extract rfl rfl) rfl rfl (XA rfl rfl rfl (XA rfl rfl rfl (XR_nil (X_seq (X_seq (X_reg (XV rfl rfl rfl ?_)))))))))
  refine XR_a (op_gtr rfl rfl) rfl rfl ?_
  refine XV rfl rfl rfl (XV rfl rfl rfl ?_)
  refine XR_a (op_gtr rfl rfl) rfl rfl ?_
  refine XR_a (op_pick_f rfl rfl) rfl rfl (XR_nil ?_)
  refine X_if rfl (fun h => ?_) (fun h => ?_)
  ·exact absurd h (by omega)
  ·refine X_skip (X_seq (X_reg (XV rfl rfl rfl ?_)))
   refine XR_a (op_convI (k' := .i64) rfl rfl (by simp only [inK]; omega)) rfl rfl ?_
   refine XR_wa (opl_mk (by omega) rfl rfl rfl) rfl rfl rfl ?_
   rintro v hp hnew
   have st := st.new hnew
   obtain ⟨g, n9, c9, rfl, hl9, hnc9, _⟩ := st.row0 0 rfl (by rw [List.length_replicate]; omega)
   rw [List.length_replicate, Nat.mul_one] at hl9
   obtain rfl : m = n9 := hl9
   refine XA rfl rfl rfl (XR_nil (X_seq (X_reg (XV rfl rfl rfl (XV rfl rfl rfl ?_)))))
   refine XR_wa (opl_copy (n' := m) (c' := c9) (m := 1) st 0 rfl (hr.ext st.low) rfl (by intro u hu; rw [List.mem_singleton.1 hu]; rfl) (by rw [List.length_replicate]; omega) rfl rfl rfl rfl) rfl rfl rfl ?_
   rintro _ hp ⟨rfl, st⟩
   simp only [List.set_cons_zero] at st
   have e0 : (List.replicate m (Value.int .i64 0)).take 0 ++ [nV x].take (min 1 m * 1) ++ (List.replicate m (Value.int .i64 0)).drop (0 + min 1 m * 1) = (List.replicate 1 x ++ List.replicate (m - 1) 0).map nV := by
    rw [Nat.min_eq_left hm1]
    simp [List.drop_replicate]
   rw [e0] at st
   rw [Nat.min_eq_left hm1]
   refine XA rfl rfl rfl (XR_nil (X_seq (X_block ?_)))
   refine X_loop (fun k => m - k) (fun k => [(7, .slice (some ⟨g, 0, none⟩) m c9), (8, nV k)])
    (fun (k : Nat) hp => 1 ≤ k ∧ k ≤ m ∧ St h0.size h0 hp [row 3 1 (.slice (some ⟨g, 0, none⟩) m c9) ((List.replicate k x ++ List.replicate (m - k) 0).map nV)])
    1 (.cons rfl (.cons rfl (.nil _))) ⟨Nat.le_refl _, hm1, st⟩ ?_
   clear st
   rintro k hp ⟨hk1, hk, st⟩
   refine X_seq (X_seq (X_reg (XV rfl rfl rfl (XV rfl rfl rfl ?_))))
   refine XR_a (op_len rfl rfl rfl) rfl rfl ?_
   refine XR_a (op_lss rfl rfl) rfl rfl ?_
   refine XR_nil ?_
   refine X_if rfl (fun h => ?_) (fun h => ?_)
   ·refine X_skip (X_block ?_)
    refine X_draw byKind (by kernel_rfl) (by kernel_rfl) ?_
    refine XV rfl rfl rfl (XV rfl rfl rfl (XV rfl rfl rfl ?_))
    refine XR_a (op_slice_l rfl rfl rfl (by omega) (by omega)) rfl rfl ?_
    rw [cutA_some (by omega), Nat.mul_one]
    refine XV rfl rfl rfl (XV rfl rfl rfl ?_)
    refine XR_a (op_slice_h rfl rfl rfl (by omega)) rfl rfl ?_
    rw [cutA_zero]
    refine XR_wa (opl_copy (o := k) (n' := m - k) (m := k) (news := (List.replicate k x).map nV) st 0 rfl (by have := (st.rdS 0 rfl).2.take k; rwa [← List.map_take, List.take_append_of_le_length (by simp), List.take_of_length_le (by simp)] at this) (by simp) (one_nV _) (by simp; omega) rfl rfl rfl rfl) rfl rfl rfl ?_
    rintro _ hp ⟨rfl, st⟩
    simp only [List.set_cons_zero] at st
    rw [rep_copy hk] at st
    first | refine XR_a (op_addN rfl rfl (by simp only [inK]; omega)) rfl rfl ?_ | refine XR_a (op_addI rfl rfl (by simp only [inK]; omega)) rfl rfl ?_ | refine XR_a (op_add rfl rfl) rfl rfl ?_
    refine XA rfl rfl rfl (XR_nil (X_blk ?_))
    exact X_again (k + min k (m - k)) (.cons rfl (.cons rfl (.nil _))) ⟨by omega, by omega, st⟩ (by omega)
   ·refine X_exit rfl (X_seq (X_reg (XV rfl rfl rfl (XA rfl rfl rfl (XR_nil ?_)))))
    refine X_ret (.cons (.tmp rfl) .nil) ?_
    obtain rfl : k = m := by omega
    rw [Nat.sub_self, List.replicate_zero, List.append_nil] at st
    exact st
theorem add_spec {B s m : Nat} {v : Value} {l : List Nat} {F : List Res} {h0 : Heap} (st : St B h0 h0 (Bn.row 3 1 v (l.map nV) :: F)) (hs : s < 19) (hm1 : rL s ≤ m) (hm2 : m ≤ rH s) (hl : l.length ≤ 65536) :
  Ret Tryz.prog 104 [v, .agg #[nV s, nV m]] h0 fun u h' => (s = 16 ∧ l.length = 0 ∧ u = retVal [.slice none 0 0, nV 3] ∧ St B h0 h' F) ∨ (¬ (s = 16 ∧ l.length = 0) ∧ ∃ w, u = retVal [w, nV 0] ∧ St B h0 h' (Bn.row 3 1 w ((rAdd l s m).map nV) :: F)) := by
 have hrh := rH_le s
 have hrp := rL_pos s
 obtain ⟨A, n, c, rfl, hln, _, _, hrd⟩ := st.row 0 rfl
 rw [List.length_map, Nat.mul_one] at hln
 refine ret_of_X Tryz.func104 rfl rfl fun w0 hw0 => ?_
 simp only [argE, Nat.zero_add, Nat.reduceAdd]
 refine X_seq (X_reg ?_)
 refine XR_wa (opl_bx (cs := [nV s, nV m]) rfl rfl) rfl rfl rfl ?_
 rintro _ hp ⟨p, rfl, hnew⟩
 replace st := st.new hnew
 refine XA rfl rfl rfl (XA rfl rfl rfl (XR_nil (X_seq (X_reg ?_))))
 first | refine XR_a (op_field0 rfl rfl) rfl rfl ?_ | refine XR_a (op_fieldn rfl rfl) rfl rfl ?_
 refine XR_a (op_ld (st.cell 0 (i := 0) rfl rfl) rfl rfl rfl) rfl rfl ?_
 refine XR_wa (opl_call (bounds_spec s _) rfl (by kernel_rfl)) rfl rfl rfl ?_
 rintro _ _ ⟨rfl, rfl⟩
 refine XV rfl rfl rfl (XR_a (op_extract rfl rfl) rfl rfl (XR_a (op_extract rfl rfl) rfl rfl (XR_a (op_extract rfl rfl) rfl rfl (XA rfl rfl rfl (XA rfl rfl rfl (XA rfl rfl rfl (XR_nil (X_seq (X_seq ?_)))))))))
 refine X_reg ?_
 first | refine XR_a (op_field0 rfl rfl) rfl rfl ?_ | refine XR_a (op_fieldn rfl rfl) rfl rfl ?_
 refine XR_a (op_ld (st.cell 0 (i := 0) rfl rfl) rfl rfl rfl) rfl rfl ?_
 refine XR_a (op_lss rfl rfl) rfl rfl ?_
 refine XR_as (.bool false) (congrArg Value.bool (decide_eq_false (by omega))) ?_
 refine XV rfl rfl rfl ?_
 first | refine XR_a (op_field0 rfl rfl) rfl rfl ?_ | refine XR_a (op_fieldn rfl rfl) rfl rfl ?_
 refine XR_a (op_ld (st.cell 0 (i := 0) rfl rfl) rfl rfl rfl) rfl rfl ?_
 refine XR_a (op_geq rfl rfl) rfl rfl ?_
 refine XR_as (.bool false) (congrArg Value.bool (decide_eq_false (by omega))) ?_
 refine XR_a (op_pick_f rfl rfl) rfl rfl (XV rfl rfl rfl ?_)
 first | refine XR_a (op_field0 rfl rfl) rfl rfl ?_ | refine XR_a (op_fieldn rfl rfl) rfl rfl ?_
 refine XR_a (op_ld (st.cell 0 (i := 1) rfl rfl) rfl rfl rfl) rfl rfl ?_
 refine XV rfl rfl rfl ?_
 refine XR_a (op_lss rfl rfl) rfl rfl ?_
 refine XR_as (.bool false) (congrArg Value.bool (decide_eq_false (by omega))) ?_
 refine XR_a (op_pick_f rfl rfl) rfl rfl (XV rfl rfl rfl ?_)
 first | refine XR_a (op_field0 rfl rfl) rfl rfl ?_ | refine XR_a (op_fieldn rfl rfl) rfl rfl ?_
 refine XR_a (op_ld (st.cell 0 (i := 1) rfl rfl) rfl rfl rfl) rfl rfl ?_
 refine XV rfl rfl rfl ?_
 refine XR_a (op_gtr rfl rfl) rfl rfl ?_
 refine XR_as (.bool false) (congrArg Value.bool (decide_eq_false (by omega))) ?_
 refine XR_a (op_pick_f rfl rfl) rfl rfl (XV rfl rfl rfl ?_)
 first | refine XR_a (op_field0 rfl rfl) rfl rfl ?_ | refine XR_a (op_fieldn rfl rfl) rfl rfl ?_
 refine XR_a (op_ld (st.cell 0 (i := 0) rfl rfl) rfl rfl rfl) rfl rfl ?_
 refine XR_a (op_eql rfl rfl) rfl rfl ?_
 refine XV rfl rfl rfl ?_
 refine XR_if 41 rfl (fun h => ?_) (fun h => ?_)
 ·have h41 := h
  refine XV rfl rfl rfl ?_
  refine XR_a (op_len rfl rfl rfl) rfl rfl ?_
  refine XR_a (op_eql rfl rfl) rfl rfl ?_
  refine XR_a (op_pick_t rfl rfl) rfl rfl (XR_a (op_pick_f rfl rfl) rfl rfl (XR_nil ?_))
  refine X_if rfl (fun h => ?_) (fun h => ?_)
  ·refine X_seq (X_reg (XA rfl rfl rfl (XA rfl rfl rfl (XR_nil ?_))))
   refine X_ret (.cons (.tmp rfl) (.cons (.tmp rfl) .nil)) ?_
   exact .inl ⟨by omega, by omega, rfl, st.tail.tail⟩
  ·refine X_skip (X_seq (X_reg ?_))
   first | refine XR_a (op_field0 rfl rfl) rfl rfl ?_ | refine XR_a (op_fieldn rfl rfl) rfl rfl ?_
   refine XR_a (op_ld (st.cell 0 (i := 0) rfl rfl) rfl rfl rfl) rfl rfl ?_
   refine XA rfl rfl rfl (XR_nil (X_seq (X_block (X_seq (X_reg (XV rfl rfl rfl ?_))))))
   refine XR_a (op_eql rfl rfl) rfl rfl ?_
   refine XA rfl rfl rfl (XR_nil ?_)
   refine X_if rfl (fun h => ?_) (fun h => ?_)
   ·have hv : rV l s = l.getD (n - 1) 0 := by unfold rV; rw [if_pos (by omega), hln]
    have hn1 : 1 ≤ n := by omega
    obtain ⟨g, o, rfl, hc⟩ := (st.rdS 1 rfl).2.at_ (by rw [List.length_map]; omega)
    have hlast := hc (n - 1) (nV (rV l s)) (by rw [hv, List.getElem?_map, List.getElem?_eq_getElem (by omega), getD_get (by omega)]; rfl)
    refine X_reg (XV rfl rfl rfl (XV rfl rfl rfl ?_))
    refine XR_a (op_len rfl rfl rfl) rfl rfl ?_
    first | refine XR_a (op_subN (n := 1) rfl rfl (by omega) (by simp only [inK]; omega)) rfl rfl ?_ | refine XR_a (op_subI rfl rfl (by simp only [inK]; omega)) rfl rfl ?_ | refine XR_a (op_sub rfl rfl) rfl rfl ?_
    refine XR_a (op_index1 (i := n - 1) rfl rfl rfl (by omega)) rfl rfl ?_
    refine XR_a (op_ld (hlast) rfl rfl rfl) rfl rfl ?_
    refine XA rfl rfl rfl (XR_nil (X_blk (X_seq (X_reg (XV rfl rfl rfl (XV rfl rfl rfl ?_))))))
    refine XR_wa (opl_lit1 rfl rfl rfl) rfl rfl rfl ?_
    rintro v7 hp hnew
    replace st := st.new hnew
    obtain ⟨A7, n7, c7, rfl, hl7, _, _, hrd7⟩ := st.row 0 rfl
    obtain rfl : n7 = 1 := by simpa using hl7.symm
    first | refine XR_a (op_field0 rfl rfl) rfl rfl ?_ | refine XR_a (op_fieldn rfl rfl) rfl rfl ?_
    refine XR_a (op_ld (st.cell 1 (i := 1) rfl rfl) rfl rfl rfl) rfl rfl ?_
    refine XR_wa (opl_call (repeat_spec (x := rV l s) hrd7 (by omega) (by omega)) rfl (by kernel_rfl)) rfl rfl rfl ?_
    rintro v8 hp8 st8
    obtain ⟨A8, n8, c8, rfl, hl8, _, _, hrd8⟩ := st8.row 0 rfl
    rw [List.length_map, List.length_replicate, Nat.mul_one] at hl8
    replace st := st.join st8
    simp only [List.cons_append, List.nil_append] at st
    refine XR_wa (opl_append st 3 rfl (hrd8) (by rw [List.length_map, List.length_replicate]; omega) (one_nV _) (by simp; omega) rfl rfl rfl rfl rfl rfl rfl) rfl rfl rfl fun v hp st => ?_
    simp only [List.set_cons_zero, List.set_cons_succ] at st
    rw [← List.map_append] at st
    refine XA rfl rfl rfl (XA rfl rfl rfl (XR_nil ?_))
    refine X_ret (.cons (.tmp rfl) (.cons (.tmp rfl) .nil)) ?_
    exact .inr ⟨by omega, _, rfl, st.tail.tail.tail⟩
   ·refine X_seq (X_reg (XV rfl rfl rfl ?_))
    refine XR_a (op_gtr rfl rfl) rfl rfl ?_
    refine XA rfl rfl rfl (XR_nil ?_)
    refine X_if rfl (fun h => ?_) (fun h => ?_)
    ·have hv : rV l s = 0 := by unfold rV; rw [if_neg (by omega), if_pos (by omega)]
     refine X_reg (XA rfl rfl rfl (XR_nil (X_blk (X_seq (X_reg (XV rfl rfl rfl (XV rfl rfl rfl ?_)))))))
     refine XR_wa (opl_lit1 rfl rfl rfl) rfl rfl rfl ?_
     rintro v7 hp hnew
     replace st := st.new hnew
     obtain ⟨A7, n7, c7, rfl, hl7, _, _, hrd7⟩ := st.row 0 rfl
     obtain rfl : n7 = 1 := by simpa using hl7.symm
     first | refine XR_a (op_field0 rfl rfl) rfl rfl ?_ | refine XR_a (op_fieldn rfl rfl) rfl rfl ?_
     refine XR_a (op_ld (st.cell 1 (i := 1) rfl rfl) rfl rfl rfl) rfl rfl ?_
     refine XR_wa (opl_call (repeat_spec (x := 0) hrd7 (by omega) (by omega)) rfl (by kernel_rfl)) rfl rfl rfl ?_
     rintro v8 hp8 st8
     rw [← hv] at st8
     obtain ⟨A8, n8, c8, rfl, hl8, _, _, hrd8⟩ := st8.row 0 rfl
     rw [List.length_map, List.length_replicate, Nat.mul_one] at hl8
     replace st := st.join st8
     simp only [List.cons_append, List.nil_append] at st
     refine XR_wa (opl_append st 3 rfl (hrd8) (by rw [List.length_map, List.length_replicate]; omega) (one_nV _) (by simp; omega) rfl rfl rfl rfl rfl rfl rfl) rfl rfl rfl fun v hp st => ?_
     simp only [List.set_cons_zero, List.set_cons_succ] at st
     rw [← List.map_append] at st
     refine XA rfl rfl rfl (XA rfl rfl rfl (XR_nil ?_))
     refine X_ret (.cons (.tmp rfl) (.cons (.tmp rfl) .nil)) ?_
     exact .inr ⟨by omega, _, rfl, st.tail.tail.tail⟩
    ·have hv : rV l s = s := by unfold rV; rw [if_neg (by omega), if_neg (by omega)]
     refine X_skip (X_blk (X_seq (X_reg (XV rfl rfl rfl (XV rfl rfl rfl ?_)))))
     refine XR_wa (opl_lit1 rfl rfl rfl) rfl rfl rfl ?_
     rintro v7 hp hnew
     replace st := st.new hnew
     obtain ⟨A7, n7, c7, rfl, hl7, _, _, hrd7⟩ := st.row 0 rfl
     obtain rfl : n7 = 1 := by simpa using hl7.symm
     first | refine XR_a (op_field0 rfl rfl) rfl rfl ?_ | refine XR_a (op_fieldn rfl rfl) rfl rfl ?_
     refine XR_a (op_ld (st.cell 1 (i := 1) rfl rfl) rfl rfl rfl) rfl rfl ?_
     refine XR_wa (opl_call (repeat_spec (x := s) hrd7 (by omega) (by omega)) rfl (by kernel_rfl)) rfl rfl rfl ?_
     rintro v8 hp8 st8
     have hv2 : List.replicate m s = List.replicate m (rV l s) := by rw [hv]
     rw [hv2] at st8
     have st8' := st8
     obtain ⟨A8, n8, c8, rfl, hl8, _, _, hrd8⟩ := st8'.row 0 rfl
     rw [List.length_map, List.length_replicate, Nat.mul_one] at hl8
     replace st := st.join st8'
     simp only [List.cons_append, List.nil_append] at st
     refine XR_wa (opl_append st 3 rfl (hrd8) (by rw [List.length_map, List.length_replicate]; omega) (one_nV _) (by simp; omega) rfl rfl rfl rfl rfl rfl rfl) rfl rfl rfl fun v hp st => ?_
     simp only [List.set_cons_zero, List.set_cons_succ] at st
     rw [← List.map_append] at st
     refine XA rfl rfl rfl (XA rfl rfl rfl (XR_nil ?_))
     refine X_ret (.cons (.tmp rfl) (.cons (.tmp rfl) .nil)) ?_
     exact .inr ⟨by omega, _, rfl, st.tail.tail.tail⟩
 ·have h41 := h
  refine XR_no rfl rfl (XR_no rfl rfl (XR_no rfl rfl (XR_a (op_pick_f rfl rfl) rfl rfl (XR_a (op_pick_f rfl rfl) rfl rfl (XR_nil (X_else rfl (X_skip (X_seq (X_reg ?_)))))))))
  first | refine XR_a (op_field0 rfl rfl) rfl rfl ?_ | refine XR_a (op_fieldn rfl rfl) rfl rfl ?_
  refine XR_a (op_ld (st.cell 0 (i := 0) rfl rfl) rfl rfl rfl) rfl rfl ?_
  refine XA rfl rfl rfl (XR_nil (X_seq (X_block (X_seq (X_reg (XV rfl rfl rfl ?_))))))
  refine XR_a (op_eql rfl rfl) rfl rfl ?_
  refine XA rfl rfl rfl (XR_nil ?_)
  refine X_if rfl (fun h => ?_) (fun h => ?_)
  ·have hv : rV l s = l.getD (n - 1) 0 := by unfold rV; rw [if_pos (by omega), hln]
   have hn1 : 1 ≤ n := by omega
   obtain ⟨g, o, rfl, hc⟩ := (st.rdS 1 rfl).2.at_ (by rw [List.length_map]; omega)
   have hlast := hc (n - 1) (nV (rV l s)) (by rw [hv, List.getElem?_map, List.getElem?_eq_getElem (by omega), getD_get (by omega)]; rfl)
   refine X_reg (XV rfl rfl rfl (XV rfl rfl rfl ?_))
   refine XR_a (op_len rfl rfl rfl) rfl rfl ?_
   first | refine XR_a (op_subN (n := 1) rfl rfl (by omega) (by simp only [inK]; omega)) rfl rfl ?_ | refine XR_a (op_subI rfl rfl (by simp only [inK]; omega)) rfl rfl ?_ | refine XR_a (op_sub rfl rfl) rfl rfl ?_
   refine XR_a (op_index1 (i := n - 1) rfl rfl rfl (by omega)) rfl rfl ?_
   refine XR_a (op_ld (hlast) rfl rfl rfl) rfl rfl ?_
   refine XA rfl rfl rfl (XR_nil (X_blk (X_seq (X_reg (XV rfl rfl rfl (XV rfl rfl rfl ?_))))))
   refine XR_wa (opl_lit1 rfl rfl rfl) rfl rfl rfl ?_
   rintro v7 hp hnew
   replace st := st.new hnew
   obtain ⟨A7, n7, c7, rfl, hl7, _, _, hrd7⟩ := st.row 0 rfl
   obtain rfl : n7 = 1 := by simpa using hl7.symm
   first | refine XR_a (op_field0 rfl rfl) rfl rfl ?_ | refine XR_a (op_fieldn rfl rfl) rfl rfl ?_
   refine XR_a (op_ld (st.cell 1 (i := 1) rfl rfl) rfl rfl rfl) rfl rfl ?_
   refine XR_wa (opl_call (repeat_spec (x := rV l s) hrd7 (by omega) (by omega)) rfl (by kernel_rfl)) rfl rfl rfl ?_
   rintro v8 hp8 st8
   obtain ⟨A8, n8, c8, rfl, hl8, _, _, hrd8⟩ := st8.row 0 rfl
   rw [List.length_map, List.length_replicate, Nat.mul_one] at hl8
   replace st := st.join st8
   simp only [List.cons_append, List.nil_append] at st
   refine XR_wa (opl_append st 3 rfl (hrd8) (by rw [List.length_map, List.length_replicate]; omega) (one_nV _) (by simp; omega) rfl rfl rfl rfl rfl rfl rfl) rfl rfl rfl fun v hp st => ?_
   simp only [List.set_cons_zero, List.set_cons_succ] at st
   rw [← List.map_append] at st
   refine XA rfl rfl rfl (XA rfl rfl rfl (XR_nil ?_))
   refine X_ret (.cons (.tmp rfl) (.cons (.tmp rfl) .nil)) ?_
   exact .inr ⟨by omega, _, rfl, st.tail.tail.tail⟩
  ·refine X_seq (X_reg (XV rfl rfl rfl ?_))
   refine XR_a (op_gtr rfl rfl) rfl rfl ?_
   refine XA rfl rfl rfl (XR_nil ?_)
   refine X_if rfl (fun h => ?_) (fun h => ?_)
   ·have hv : rV l s = 0 := by unfold rV; rw [if_neg (by omega), if_pos (by omega)]
    refine X_reg (XA rfl rfl rfl (XR_nil (X_blk (X_seq (X_reg (XV rfl rfl rfl (XV rfl rfl rfl ?_)))))))
    refine XR_wa (opl_lit1 rfl rfl rfl) rfl rfl rfl ?_
    rintro v7 hp hnew
    replace st := st.new hnew
    obtain ⟨A7, n7, c7, rfl, hl7, _, _, hrd7⟩ := st.row 0 rfl
    obtain rfl : n7 = 1 := by simpa using hl7.symm
    first | refine XR_a (op_field0 rfl rfl) rfl rfl ?_ | refine XR_a (op_fieldn rfl rfl) rfl rfl ?_
    refine XR_a (op_ld (st.cell 1 (i := 1) rfl rfl) rfl rfl rfl) rfl rfl ?_
    refine XR_wa (opl_call (repeat_spec (x := 0) hrd7 (by omega) (by omega)) rfl (by kernel_rfl)) rfl rfl rfl ?_
    rintro v8 hp8 st8
    rw [← hv] at st8
    obtain ⟨A8, n8, c8, rfl, hl8, _, _, hrd8⟩ := st8.row 0 rfl
    rw [List.length_map, List.length_replicate, Nat.mul_one] at hl8
    replace st := st.join st8
    simp only [List.cons_append, List.nil_append] at st
    refine XR_wa (opl_append st 3 rfl (hrd8) (by rw [List.length_map, List.length_replicate]; omega) (one_nV _) (by simp; omega) rfl rfl rfl rfl rfl rfl rfl) rfl rfl rfl fun v hp st => ?_
    simp only [List.set_cons_zero, List.set_cons_succ] at st
    rw [← List.map_append] at st
    refine XA rfl rfl rfl (XA rfl rfl rfl (XR_nil ?_))
    refine X_ret (.cons (.tmp rfl) (.cons (.tmp rfl) .nil)) ?_
    exact .inr ⟨by omega, _, rfl, st.tail.tail.tail⟩
   ·have hv : rV l s = s := by unfold rV; rw [if_neg (by omega), if_neg (by omega)]
    refine X_skip (X_blk (X_seq (X_reg (XV rfl rfl rfl (XV rfl rfl rfl ?_)))))
    refine XR_wa (opl_lit1 rfl rfl rfl) rfl rfl rfl ?_
    rintro v7 hp hnew
    replace st := st.new hnew
    obtain ⟨A7, n7, c7, rfl, hl7, _, _, hrd7⟩ := st.row 0 rfl
    obtain rfl : n7 = 1 := by simpa using hl7.symm
    first | refine XR_a (op_field0 rfl rfl) rfl rfl ?_ | refine XR_a (op_fieldn rfl rfl) rfl rfl ?_
    refine XR_a (op_ld (st.cell 1 (i := 1) rfl rfl) rfl rfl rfl) rfl rfl ?_
    refine XR_wa (opl_call (repeat_spec (x := s) hrd7 (by omega) (by omega)) rfl (by kernel_rfl)) rfl rfl rfl ?_
    rintro v8 hp8 st8
    have hv2 : List.replicate m s = List.replicate m (rV l s) := by rw [hv]
    rw [hv2] at st8
    have st8' := st8
    obtain ⟨A8, n8, c8, rfl, hl8, _, _, hrd8⟩ := st8'.row 0 rfl
    rw [List.length_map, List.length_replicate, Nat.mul_one] at hl8
    replace st := st.join st8'
    simp only [List.cons_append, List.nil_append] at st
    refine XR_wa (opl_append st 3 rfl (hrd8) (by rw [List.length_map, List.length_replicate]; omega) (one_nV _) (by simp; omega) rfl rfl rfl rfl rfl rfl rfl) rfl rfl rfl fun v hp st => ?_
    simp only [List.set_cons_zero, List.set_cons_succ] at st
    rw [← List.map_append] at st
    refine XA rfl rfl rfl (XA rfl rfl rfl (XR_nil ?_))
    refine X_ret (.cons (.tmp rfl) (.cons (.tmp rfl) .nil)) ?_
    exact .inr ⟨by omega, _, rfl, st.tail.tail.tail⟩
end Go.Bn
end

section
set_option linter.unusedVariables false
set_option linter.unusedSimpArgs false
set_option maxHeartbeats 4000000
set_option maxRecDepth 20000
namespace Go.Bn
open Go Proofs
theorem wd_nat {n : Nat} (h : n ≤ 32) : wd 32 ((n : Nat) : Int) = n := by unfold wd; omega
theorem St.re3 {B : Nat} {h0 hp : Heap} {a b c : Res} {F : List Res} (s : St B h0 hp (a :: b :: c :: F)) : St B h0 hp (b :: c :: a :: F) := s.perm ((List.Perm.swap _ _ _).trans ((List.Perm.swap _ _ _).cons _))
theorem St.re3' {B : Nat} {h0 hp : Heap} {a b c : Res} {F : List Res} (s : St B h0 hp (b :: c :: a :: F)) : St B h0 hp (b :: c :: F) := (s.perm (((List.Perm.swap _ _ _).cons _).trans (List.Perm.swap _ _ _))).tail
def okR (bs : List Bool) (a : Nat) : Bool := decide (rightC ((lens19 bs (a + 9) 19).map fun n : Nat => (n : Int)))
theorem cast_toNat (ls : List Nat) : (ls.map fun n : Nat => (n : Int)).map Int.toNat = ls := by
 rw [List.map_map]
 conv => rhs; rw [← List.map_id ls]
 exact List.map_congr_left fun x _ => by simp
theorem head_spec {B q m c a : Nat} {A : Option Addr} {l : List UInt8} {F : List Res} {h0 : Heap} (st : St B h0 h0 (rdG q A m c a :: F)) (hrB : ∀ h', Low B h0 h' → Rd h' A (l.map byteV)) (hl : l.length = m) (hm : m ≤ 1073741824) (ha : a ≤ 8 * m) :
  Ret Tryz.prog 102 [.pointer (some ⟨q, 0, none⟩)] h0 fun v h' => ∃ n' w a', v = retVal [n', w, nV (headE (bitsB l) a (okR (bitsB l) a))] ∧ a' ≤ 8 * m ∧
   (headE (bitsB l) a (okR (bitsB l) a) = 0 → n' = nV (numB (bitsB l) a 9) ∧ a + 85 ≤ 8 * m ∧ lensOK (lens19 (bitsB l) (a + 9) 19) ∧ ∃ p, w = .pointer (some ⟨p, 0, none⟩) ∧ St B h0 h' (codeR p (lens19 (bitsB l) (a + 9) 19) :: rdG q A m c (a + 85) :: F)) ∧
   (headE (bitsB l) a (okR (bitsB l) a) ≠ 0 → St B h0 h' (rdG q A m c a' :: F)) := by
 have hbl : (bitsB l).length = 8 * m := by rw [bitsB_length, hl]
 have hH : headE (bitsB l) a (okR (bitsB l) a) = if (bitsB l).length < a + 9 then 2 else if numB (bitsB l) a 9 < 1 ∨ 320 < numB (bitsB l) a 9 then 5 else if (bitsB l).length < a + 85 then 2 else if okR (bitsB l) a = true then 0 else 13 := rfl
 have hn9 := numB_lt (bitsB l) a 9
 have hn4 := fun i => numB_lt (bitsB l) (a + 9 + 4 * i) 4
 have hok : okR (bitsB l) a = decide (rightC ((lens19 (bitsB l) (a + 9) 19).map fun n : Nat => (n : Int))) := rfl
 obtain ⟨bs, hbs⟩ : ∃ bs, bitsB l = bs := ⟨_, rfl⟩
 simp only [hbs] at hbl hH hn9 hn4 hok ⊢
 obtain ⟨e, he⟩ : ∃ e, headE bs a (okR bs a) = e := ⟨_, rfl⟩
 rw [he] at hH ⊢
 refine ret_of_X Tryz.func102 rfl rfl fun w0 hw0 => ?_
 simp only [argE, Nat.zero_add, Nat.reduceAdd]
 refine X_seq (X_reg (XA rfl rfl rfl ?_))
 by_cases h9 : 9 ≤ 8 * m - a
 ·refine XA rfl rfl rfl (XA rfl rfl rfl (XR_nil (X_seq (X_reg (XV rfl rfl rfl ?_)))))
  refine XR_wa (opl_call (rtake_spec (k := 9) st (hrB _ st.low) hl (by omega) ha) rfl (by kernel_rfl)) rfl rfl rfl ?_
  rintro _ hp ⟨rfl, st1⟩
  rw [show wd 32 9 = 9 from rfl, if_pos h9] at st1
  rw [show wd 32 9 = 9 from rfl, hbs, if_pos h9, decide_eq_true h9]
  refine XV rfl rfl rfl (XR_a (op_extract rfl rfl) rfl rfl (XR_a (op_extract rfl rfl) rfl rfl (XA rfl rfl rfl (XA rfl rfl rfl (XR_nil (X_seq (X_seq (X_reg (XV rfl rfl rfl ?_)))))))))
  refine XR_a (op_not rfl) rfl rfl ?_
  refine XR_nil (X_else rfl (X_skip (X_seq (X_seq (X_reg (XV rfl rfl rfl ?_))))))
  refine XR_a (op_lss rfl rfl) rfl rfl ?_
  refine XV rfl rfl rfl ?_
  refine XR_if 22 rfl (fun h => ?_) (fun h => ?_)
  ·have h22 := h
   refine XR_no rfl rfl (XR_no rfl rfl (XR_a (op_pick_t rfl rfl) rfl rfl (XR_nil (X_then rfl (X_seq (X_reg (XA rfl rfl rfl (XA rfl rfl rfl (XA rfl rfl rfl ?_)))))))))
   refine XR_nil ?_
   refine X_ret (.cons (.tmp rfl) (.cons (.tmp rfl) (.cons (.tmp rfl) .nil))) ?_
   have he5 : e = 5 := by rw [hH, if_neg (by omega), if_pos (by omega)]
   rw [he5]
   exact ⟨_, _, a + 9, rfl, by omega, fun hh => absurd hh (by omega), fun _ => st1⟩
  ·have h22 := h
   refine XV rfl rfl rfl ?_
   refine XR_a (op_gtr rfl rfl) rfl rfl ?_
   refine XR_a (op_pick_f rfl rfl) rfl rfl (XR_nil ?_)
   refine X_if rfl (fun h => ?_) (fun h => ?_)
   ·have hbad : numB bs a 9 < 1 ∨ 320 < numB bs a 9 := by omega
    refine X_seq (X_reg (XA rfl rfl rfl (XA rfl rfl rfl (XA rfl rfl rfl (XR_nil ?_)))))
    refine X_ret (.cons (.tmp rfl) (.cons (.tmp rfl) (.cons (.tmp rfl) .nil))) ?_
    have he5 : e = 5 := by rw [hH, if_neg (by omega), if_pos hbad]
    rw [he5]
    exact ⟨_, _, a + 9, rfl, by omega, fun hh => absurd hh (by omega), fun _ => st1⟩
   ·refine X_skip (X_seq (X_reg ?_))
    refine XR_wa (opl_mk (n := 19) (by omega) rfl rfl rfl) rfl rfl rfl ?_
    rintro v hp hnew
    have st := st1.new hnew
    obtain ⟨go, no, co, rfl, hno, _⟩ := st.row0 0 rfl (by rw [List.length_replicate]; omega)
    obtain rfl : no = 19 := by simpa using hno.symm
    refine XA rfl rfl rfl (XR_nil (X_seq (X_seq (X_reg (XV rfl rfl rfl ?_)))))
    refine XR_a (op_len rfl rfl rfl) rfl rfl ?_
    refine XV rfl rfl rfl (XR_nil (X_block ?_))
    have hz : List.replicate 19 (Value.int .i64 0) = (lens19 bs (a + 9) 0).map nV := by rw [lens19_zero, List.map_replicate]; rfl
    rw [hz] at st
    refine X_loop (fun i => 19 - i) (fun i => [(0, .pointer (some ⟨q, 0, none⟩)), (5, .int .u32 (numB bs a 9 : Nat)), (7, .slice (some ⟨go, 0, none⟩) 19 co), (28, nV 19), (29, nV i)])
     (fun (i : Nat) hp => i ≤ 19 ∧ a + 9 + 4 * i ≤ 8 * m ∧ St B h0 hp (Bn.row 3 1 (.slice (some ⟨go, 0, none⟩) 19 co) ((lens19 bs (a + 9) i).map nV) :: rdG q A m c (a + 9 + 4 * i) :: F))
     0 (.cons rfl (.cons rfl (.cons rfl (.cons rfl (.cons rfl (.nil _)))))) ⟨by omega, by omega, st⟩ ?_
    clear st st1
    rintro i hp ⟨hi, hia, st⟩
    refine X_seq (X_reg ?_)
    refine XR_a (op_lss rfl rfl) rfl rfl ?_
    refine XR_nil (X_seq ?_)
    refine X_if rfl (fun h => ?_) (fun h => ?_)
    ·refine X_skip (X_seq (X_block (X_seq (X_reg (XV rfl rfl rfl (XA rfl rfl rfl ?_))))))
     by_cases h4 : 4 ≤ 8 * m - (a + 9 + 4 * i)
     ·refine XR_nil (X_seq (X_reg (XV rfl rfl rfl ?_)))
      refine XR_wa (opl_call (rtake_spec (k := 4) (st.here.perm (List.Perm.swap _ _ _)) (hrB _ st.low) hl (by omega) hia) rfl (by kernel_rfl)) rfl rfl rfl ?_
      rintro _ hp2 ⟨rfl, st2⟩
      rw [show wd 32 4 = 4 from rfl, if_pos h4] at st2
      rw [show wd 32 4 = 4 from rfl, hbs, if_pos h4, decide_eq_true h4]
      have hlt4 := hn4 i
      replace st := st.trans (st2.perm (List.Perm.swap _ _ _))
      refine XV rfl rfl rfl (XR_a (op_extract rfl rfl) rfl rfl (XR_a (op_extract rfl rfl) rfl rfl (XA rfl rfl rfl (XA rfl rfl rfl (XR_nil (X_seq (X_seq (X_reg (XV rfl rfl rfl ?_)))))))))
      refine XR_a (op_not rfl) rfl rfl ?_
      refine XR_nil (X_else rfl (X_skip (X_reg (XV rfl rfl rfl (XV rfl rfl rfl (XV rfl rfl rfl ?_))))))
      refine XR_a (op_convI (k' := .i64) rfl rfl (by simp only [inK]; omega)) rfl rfl ?_
      first | refine XR_a (op_index1 rfl rfl rfl (by omega)) rfl rfl ?_ | refine XR_a (op_index rfl rfl rfl (by omega)) rfl rfl ?_
      refine XR_wn (opl_store_row (o := 0) (i := i) (v := nV (numB bs (a + 9 + 4 * i) 4)) st 0 rfl (congrArg (fun x => some (Value.pointer (some ⟨go, x, none⟩))) (by omega)) rfl (by rw [List.length_map, lens19_len]; omega) rfl rfl) rfl rfl fun _ hp st => ?_
      simp only [List.set_cons_zero] at st
      rw [map_set_nV, lens19_set (by omega)] at st
      refine XR_nil (X_blk (X_reg ?_))
      first | refine XR_a (op_addN (n := 1) rfl rfl (by simp only [inK]; omega)) rfl rfl ?_ | refine XR_a (op_addI rfl rfl (by simp only [inK]; omega)) rfl rfl ?_ | refine XR_a (op_add rfl rfl) rfl rfl ?_
      refine XV rfl rfl rfl (XR_nil ?_)
      exact X_again (i + 1) (.cons rfl (.cons rfl (.cons rfl (.cons rfl (.cons rfl (.nil _)))))) ⟨by omega, by omega, st⟩ (by omega)
     ·refine XR_nil (X_seq (X_reg (XV rfl rfl rfl ?_)))
      refine XR_wa (opl_call (rtake_spec (k := 4) (st.here.perm (List.Perm.swap _ _ _)) (hrB _ st.low) hl (by omega) hia) rfl (by kernel_rfl)) rfl rfl rfl ?_
      rintro _ hp2 ⟨rfl, st2⟩
      rw [show wd 32 4 = 4 from rfl, if_neg h4] at st2
      rw [show wd 32 4 = 4 from rfl, hbs, if_neg h4, decide_eq_false h4]
      replace st := st.trans (st2.perm (List.Perm.swap _ _ _))
      refine XV rfl rfl rfl (XR_a (op_extract rfl rfl) rfl rfl (XR_a (op_extract rfl rfl) rfl rfl (XA rfl rfl rfl (XA rfl rfl rfl (XR_nil (X_seq (X_seq (X_reg (XV rfl rfl rfl ?_)))))))))
      refine XR_a (op_not rfl) rfl rfl ?_
      refine XR_nil (X_then rfl (X_seq (X_reg (XA rfl rfl rfl (XA rfl rfl rfl (XA rfl rfl rfl (XR_nil ?_)))))))
      refine X_ret (.cons (.tmp rfl) (.cons (.tmp rfl) (.cons (.tmp rfl) .nil))) ?_
      have he2 : e = 2 := by rw [hH, if_neg (by omega), if_neg (by omega), if_pos (by omega)]
      rw [he2]
      exact ⟨_, _, _, rfl, hia, fun hh => absurd hh (by omega), fun _ => st.tail⟩
    ·refine X_exit rfl (X_seq ?_)
     obtain rfl : i = 19 := by omega
     have hrdL := (st.rdS 0 rfl).2
     rw [nV_iV] at hrdL
     refine X_reg (XV rfl rfl rfl ?_)
     by_cases hR : rightC ((lens19 bs (a + 9) 19).map fun n : Nat => (n : Int))
     ·refine XR_wa (opl_call (cnew_spec hrdL (by rw [List.length_map, lens19_len]) (by omega)) rfl (by kernel_rfl)) rfl rfl rfl ?_
      rintro _ hp5 ⟨w, rfl, hx5, hy5, hz5⟩
      refine XV rfl rfl rfl (XR_a (op_extract rfl rfl) rfl rfl (XR_a (op_extract rfl rfl) rfl rfl (XA rfl rfl rfl (XA rfl rfl rfl (XR_nil (X_seq (X_reg (XV rfl rfl rfl ?_))))))))
      refine XR_a (op_convI (k' := .i64) rfl rfl (by simp only [inK]; omega)) rfl rfl ?_
      refine XV rfl rfl rfl (XV rfl rfl rfl (XA rfl rfl rfl (XA rfl rfl rfl (XA rfl rfl rfl (XR_nil ?_)))))
      refine X_ret (.cons (.tmp rfl) (.cons (.tmp rfl) (.cons (.tmp rfl) .nil))) ?_
      have he0 : e = 0 := by rw [hH, if_neg (by omega), if_neg (by omega), if_neg (by omega), hok, decide_eq_true hR]; rfl
      obtain ⟨p, rfl, sc⟩ := hy5 hR
      rw [cast_toNat] at sc
      have hlok := hR.ok
      rw [cast_toNat] at hlok
      rw [he0, errC_zero.2 hR]
      refine ⟨_, _, 0, rfl, by omega, fun _ => ⟨rfl, by omega, hlok, p, rfl, ?_⟩, fun hh => absurd rfl hh⟩
      have := st.join sc
      simp only [List.cons_append, List.nil_append] at this
      exact (this.perm (List.Perm.swap _ _ _)).tail
     ·refine XR_wa (opl_call (cnew_spec hrdL (by rw [List.length_map, lens19_len]) (by omega)) rfl (by kernel_rfl)) rfl rfl rfl ?_
      rintro _ hp5 ⟨w, rfl, hx5, hy5, hz5⟩
      refine XV rfl rfl rfl (XR_a (op_extract rfl rfl) rfl rfl (XR_a (op_extract rfl rfl) rfl rfl (XA rfl rfl rfl (XA rfl rfl rfl (XR_nil (X_seq (X_reg (XV rfl rfl rfl ?_))))))))
      refine XR_a (op_convI (k' := .i64) rfl rfl (by simp only [inK]; omega)) rfl rfl ?_
      refine XV rfl rfl rfl (XV rfl rfl rfl (XA rfl rfl rfl (XA rfl rfl rfl (XA rfl rfl rfl (XR_nil ?_)))))
      refine X_ret (.cons (.tmp rfl) (.cons (.tmp rfl) (.cons (.tmp rfl) .nil))) ?_
      have he13 : e = 13 := by rw [hH, if_neg (by omega), if_neg (by omega), if_neg (by omega), hok, decide_eq_false hR]; rfl
      have hec : errC ((lens19 bs (a + 9) 19).map fun n : Nat => (n : Int)) = 13 := by unfold errC; rw [if_neg hR]
      rw [he13, hec]
      exact ⟨_, _, _, rfl, hia, fun hh => absurd hh (by omega), fun _ => (st.ext hx5).tail⟩
 ·refine XA rfl rfl rfl (XA rfl rfl rfl (XR_nil (X_seq (X_reg (XV rfl rfl rfl ?_)))))
  refine XR_wa (opl_call (rtake_spec (k := 9) st (hrB _ st.low) hl (by omega) ha) rfl (by kernel_rfl)) rfl rfl rfl ?_
  rintro _ hp ⟨rfl, st1⟩
  rw [show wd 32 9 = 9 from rfl, if_neg h9] at st1
  rw [show wd 32 9 = 9 from rfl, hbs, if_neg h9, decide_eq_false h9]
  refine XV rfl rfl rfl (XR_a (op_extract rfl rfl) rfl rfl (XR_a (op_extract rfl rfl) rfl rfl (XA rfl rfl rfl (XA rfl rfl rfl (XR_nil (X_seq (X_seq (X_reg (XV rfl rfl rfl ?_)))))))))
  refine XR_a (op_not rfl) rfl rfl ?_
  refine XR_nil (X_then rfl (X_seq (X_reg (XA rfl rfl rfl (XA rfl rfl rfl (XA rfl rfl rfl (XR_nil ?_)))))))
  refine X_ret (.cons (.tmp rfl) (.cons (.tmp rfl) (.cons (.tmp rfl) .nil))) ?_
  have he2 : e = 2 := by rw [hH, if_pos (by omega)]
  rw [he2]
  exact ⟨_, _, a, rfl, ha, fun hh => absurd hh (by omega), fun _ => st1⟩
noncomputable def oneR (ls : List Nat) (bs : List Bool) (a : Nat) : Nat × Nat × Nat × Nat :=
  if (takeC ls (bs.drop a)).2.2 ≠ 0 then (0, 0, (takeC ls (bs.drop a)).2.2, a + (takeC ls (bs.drop a)).2.1) else if bs.length < a + (takeC ls (bs.drop a)).2.1 + rW (takeC ls (bs.drop a)).1 then (0, 0, 2, a + (takeC ls (bs.drop a)).2.1) else
    ((takeC ls (bs.drop a)).1, rL (takeC ls (bs.drop a)).1 + numB bs (a + (takeC ls (bs.drop a)).2.1) (rW (takeC ls (bs.drop a)).1), 0, a + (takeC ls (bs.drop a)).2.1 + rW (takeC ls (bs.drop a)).1)
theorem one_spec {B p q m c a : Nat} {A : Option Addr} {l : List UInt8} {ls : List Nat} {F : List Res} {h0 : Heap} (st0 : St B h0 h0 (rdG q A m c a :: codeR p ls :: F)) (hok : lensOK ls) (hrB : ∀ h', Low B h0 h' → Rd h' A (l.map byteV)) (hl : l.length = m) (hm : m ≤ 1073741824) (ha : a ≤ 8 * m) :
  Ret Tryz.prog 103 [.pointer (some ⟨q, 0, none⟩), .pointer (some ⟨p, 0, none⟩)] h0
   fun v h' => v = retVal [.agg #[nV (oneR ls (bitsB l) a).1, nV (oneR ls (bitsB l) a).2.1], nV (oneR ls (bitsB l) a).2.2.1] ∧ (oneR ls (bitsB l) a).2.2.2 ≤ 8 * m ∧ St B h0 h' (rdG q A m c (oneR ls (bitsB l) a).2.2.2 :: codeR p ls :: F) := by
 have hbl : (bitsB l).length = 8 * m := by rw [bitsB_length, hl]
 have hle := takeC_le ls ((bitsB l).drop a)
 rw [List.length_drop, hbl] at hle
 have hO : oneR ls (bitsB l) a = if (takeC ls ((bitsB l).drop a)).2.2 ≠ 0 then (0, 0, (takeC ls ((bitsB l).drop a)).2.2, a + (takeC ls ((bitsB l).drop a)).2.1) else if (bitsB l).length < a + (takeC ls ((bitsB l).drop a)).2.1 + rW (takeC ls ((bitsB l).drop a)).1 then (0, 0, 2, a + (takeC ls ((bitsB l).drop a)).2.1) else
  ((takeC ls ((bitsB l).drop a)).1, rL (takeC ls ((bitsB l).drop a)).1 + numB (bitsB l) (a + (takeC ls ((bitsB l).drop a)).2.1) (rW (takeC ls ((bitsB l).drop a)).1), 0, a + (takeC ls ((bitsB l).drop a)).2.1 + rW (takeC ls ((bitsB l).drop a)).1) := rfl
 have hct := fun {B F h0} (st : St B h0 h0 (rdG q A m c a :: codeR p ls :: F)) hr => ctake_spec (l := l) st hok hr hl (by omega) ha
 obtain ⟨O, hOe⟩ : ∃ O, oneR ls (bitsB l) a = O := ⟨_, rfl⟩
 rw [hOe] at hO ⊢
 obtain ⟨⟨s, k, e⟩, hT⟩ : ∃ T, takeC ls ((bitsB l).drop a) = T := ⟨_, rfl⟩
 simp only [hT] at hO hle hct
 have hw7 := rW_le s
 have hnw := numB_lt (bitsB l) (a + k) (rW s)
 have hp7 : 2 ^ rW s ≤ 128 := Nat.le_trans (Nat.pow_le_pow_right (n := 2) (by omega) hw7) (by decide)
 have hrp : rL s ≤ 138 := by unfold rL; split <;> (try split) <;> (try split) <;> omega
 refine ret_of_X Tryz.func103 rfl rfl fun w0 hw0 => ?_
 simp only [argE, Nat.zero_add, Nat.reduceAdd]
 refine X_seq (X_reg ?_)
 refine XR_wa (opl_new rfl) rfl rfl rfl ?_
 rintro _ hp ⟨p4, rfl, hnew⟩
 have st := st0.new hnew
 replace st := st.re3
 refine XA rfl rfl rfl ?_
 by_cases he : e = 0
 ·refine XR_nil (X_seq (X_reg (XV rfl rfl rfl (XV rfl rfl rfl ?_))))
  refine XR_wa (opl_call (hct st.here (hrB _ st.low)) rfl (by kernel_rfl)) rfl rfl rfl ?_
  rintro _ hp2 ⟨rfl, st2⟩
  replace st := st.trans st2
  refine XV rfl rfl rfl (XR_a (op_extract rfl rfl) rfl rfl (XR_a (op_extract rfl rfl) rfl rfl (XA rfl rfl rfl (XA rfl rfl rfl (XR_nil (X_seq (X_seq (X_reg (XV rfl rfl rfl ?_)))))))))
  refine XR_a (op_neq rfl rfl) rfl rfl ?_
  refine XR_as (.bool false) (congrArg Value.bool (decide_eq_false (by omega))) ?_
  refine XR_nil (X_else rfl (X_skip (X_seq (X_reg (XV rfl rfl rfl ?_)))))
  refine XR_wa (opl_call (bounds_spec s _) rfl (by kernel_rfl)) rfl rfl rfl ?_
  rintro _ _ ⟨rfl, rfl⟩
  refine XV rfl rfl rfl (XR_a (op_extract rfl rfl) rfl rfl (XR_a (op_extract rfl rfl) rfl rfl (XR_a (op_extract rfl rfl) rfl rfl (XA rfl rfl rfl (XA rfl rfl rfl (XA rfl rfl rfl ?_))))))
  by_cases hw : rW s ≤ 8 * m - (a + k)
  ·refine XR_nil (X_seq (X_reg (XV rfl rfl rfl (XV rfl rfl rfl ?_))))
   refine XR_wa (opl_call (rtake_spec (k := ((rW s : Nat) : Int)) st.here (hrB _ st.low) hl (by omega) (by omega)) rfl (by kernel_rfl)) rfl rfl rfl ?_
   rintro _ hp3 ⟨rfl, st3⟩
   rw [wd_nat (by omega), if_pos hw] at st3
   rw [wd_nat (by omega), if_pos hw, decide_eq_true hw]
   replace st := st.trans st3
   refine XV rfl rfl rfl (XR_a (op_extract rfl rfl) rfl rfl (XR_a (op_extract rfl rfl) rfl rfl (XA rfl rfl rfl (XA rfl rfl rfl (XR_nil (X_seq (X_seq (X_reg (XV rfl rfl rfl ?_)))))))))
   refine XR_a (op_not rfl) rfl rfl ?_
   refine XR_nil (X_else rfl (X_skip (X_seq (X_reg (XV rfl rfl rfl (XV rfl rfl rfl (XV rfl rfl rfl ?_)))))))
   refine XR_a (op_convI (k' := .i64) rfl rfl (by simp only [inK]; omega)) rfl rfl ?_
   first | refine XR_a (op_addN rfl rfl (by simp only [inK]; omega)) rfl rfl ?_ | refine XR_a (op_addI rfl rfl (by simp only [inK]; omega)) rfl rfl ?_ | refine XR_a (op_add rfl rfl) rfl rfl ?_
   refine XR_a (op_build (ps := [(0, nV s), (1, nV (rL s + numB (bitsB l) (a + k) (rW s)))]) (cs := #[nV s, nV (rL s + numB (bitsB l) (a + k) (rW s))]) rfl rfl) rfl rfl ?_
   refine XR_wn (opl_store_whole (us := [nV s, nV (rL s + numB (bitsB l) (a + k) (rW s))]) st 2 rfl rfl rfl rfl rfl (one_nV [s, _]) rfl) rfl rfl fun _ hp st => ?_
   simp only [List.set_cons_zero, List.set_cons_succ] at st
   refine XA rfl rfl rfl (XR_nil ?_)
   refine X_ret (.cons (RV_agg (vs := [nV s, nV (rL s + numB (bitsB l) (a + k) (rW s))]) rfl rfl rfl (st.cells 2 rfl)) (.cons (.tmp rfl) .nil)) ?_
   rw [if_neg (by omega), if_neg (by omega)] at hO
   rw [hO]
   exact ⟨rfl, by simp only; omega, st.re3'⟩
  ·refine XR_nil (X_seq (X_reg (XV rfl rfl rfl (XV rfl rfl rfl ?_))))
   refine XR_wa (opl_call (rtake_spec (k := ((rW s : Nat) : Int)) st.here (hrB _ st.low) hl (by omega) (by omega)) rfl (by kernel_rfl)) rfl rfl rfl ?_
   rintro _ hp3 ⟨rfl, st3⟩
   rw [wd_nat (by omega), if_neg hw] at st3
   rw [wd_nat (by omega), if_neg hw, decide_eq_false hw]
   replace st := st.trans st3
   refine XV rfl rfl rfl (XR_a (op_extract rfl rfl) rfl rfl (XR_a (op_extract rfl rfl) rfl rfl (XA rfl rfl rfl (XA rfl rfl rfl (XR_nil (X_seq (X_seq (X_reg (XV rfl rfl rfl ?_)))))))))
   refine XR_a (op_not rfl) rfl rfl ?_
   refine XR_nil (X_then rfl (X_seq (X_reg ?_)))
   refine XR_a (op_build (ps := []) (cs := #[nV 0, nV 0]) rfl rfl) rfl rfl ?_
   refine XR_wn (opl_store_whole (us := [nV 0, nV 0]) st 2 rfl rfl rfl rfl rfl (one_nV [0, 0]) rfl) rfl rfl fun _ hp st => ?_
   simp only [List.set_cons_zero, List.set_cons_succ] at st
   refine XA rfl rfl rfl (XR_nil ?_)
   refine X_ret (.cons (RV_agg (vs := [nV 0, nV 0]) rfl rfl rfl (st.cells 2 rfl)) (.cons (.tmp rfl) .nil)) ?_
   rw [if_neg (by omega), if_pos (by omega)] at hO
   rw [hO]
   exact ⟨rfl, by simp only; omega, st.re3'⟩
 ·refine XR_nil (X_seq (X_reg (XV rfl rfl rfl (XV rfl rfl rfl ?_))))
  refine XR_wa (opl_call (hct st.here (hrB _ st.low)) rfl (by kernel_rfl)) rfl rfl rfl ?_
  rintro _ hp2 ⟨rfl, st2⟩
  replace st := st.trans st2
  refine XV rfl rfl rfl (XR_a (op_extract rfl rfl) rfl rfl (XR_a (op_extract rfl rfl) rfl rfl (XA rfl rfl rfl (XA rfl rfl rfl (XR_nil (X_seq (X_seq (X_reg (XV rfl rfl rfl ?_)))))))))
  refine XR_a (op_neq rfl rfl) rfl rfl ?_
  refine XR_as (.bool true) (congrArg Value.bool (decide_eq_true (by omega))) ?_
  refine XR_nil (X_then rfl (X_seq (X_reg ?_)))
  refine XR_a (op_build (ps := []) (cs := #[nV 0, nV 0]) rfl rfl) rfl rfl ?_
  refine XV rfl rfl rfl ?_
  refine XR_wn (opl_store_whole (us := [nV 0, nV 0]) st 2 rfl rfl rfl rfl rfl (one_nV [0, 0]) rfl) rfl rfl fun _ hp st => ?_
  simp only [List.set_cons_zero, List.set_cons_succ] at st
  refine XA rfl rfl rfl (XR_nil ?_)
  refine X_ret (.cons (RV_agg (vs := [nV 0, nV 0]) rfl rfl rfl (st.cells 2 rfl)) (.cons (.tmp rfl) .nil)) ?_
  rw [if_pos he] at hO
  rw [hO]
  exact ⟨rfl, by simp only; omega, st.re3'⟩
end Go.Bn
end

section
set_option linter.unusedVariables false
set_option linter.unusedSimpArgs false
set_option maxHeartbeats 4000000
set_option maxRecDepth 20000
namespace Go.Bn
open Go Proofs
theorem add_bad {B s m : Nat} {v : Value} {l : List Nat} {F : List Res} {h0 : Heap} (st : St B h0 h0 (Bn.row 3 1 v (l.map nV) :: F)) (hs : s < 19) (hm1 : rL s ≤ m) (hm2 : m ≤ rH s) (hl : l.length ≤ 65536) (hz : s = 16 ∧ l.length = 0) :
  Ret Tryz.prog 104 [v, .agg #[nV s, nV m]] h0 fun u h' => u = retVal [.slice none 0 0, nV 3] ∧ St B h0 h' F := by
 refine (add_spec st hs hm1 hm2 hl).mono ?_
 rintro u h' (⟨_, _, h⟩ | ⟨h, _⟩)
 ·exact h
 ·exact absurd hz h
theorem add_ok {B s m : Nat} {v : Value} {l : List Nat} {F : List Res} {h0 : Heap} (st : St B h0 h0 (Bn.row 3 1 v (l.map nV) :: F)) (hs : s < 19) (hm1 : rL s ≤ m) (hm2 : m ≤ rH s) (hl : l.length ≤ 65536) (hz : ¬ (s = 16 ∧ l.length = 0)) :
  Ret Tryz.prog 104 [v, .agg #[nV s, nV m]] h0 fun u h' => ∃ w, u = retVal [w, nV 0] ∧ St B h0 h' (Bn.row 3 1 w ((rAdd l s m).map nV) :: F) := by
 refine (add_spec st hs hm1 hm2 hl).mono ?_
 rintro u h' (⟨h1, h2, _⟩ | ⟨_, h⟩)
 ·exact absurd ⟨h1, h2⟩ hz
 ·exact h
theorem goT_step {ls : List Nat} {bs : List Bool} {n f a : Nat} {l : List Nat} (h : l.length < n) {x y e a2 : Nat} (hO : oneR ls bs a = (x, y, e, a2)) :
  goT ls bs n (f + 1) a l = if e ≠ 0 then ([], 0, e) else if x = 16 ∧ l.length = 0 then ([], 0, 3) else if n < l.length + y then ([], 0, 3) else goT ls bs n f a2 (rAdd l x y) := by
 rw [goT, if_neg (by omega)]
 unfold oneR at hO
 by_cases h1 : (takeC ls (bs.drop a)).2.2 ≠ 0
 ·rw [if_pos h1] at hO ⊢
  cases hO
  rw [if_pos h1]
 ·rw [if_neg h1] at hO ⊢
  by_cases h2 : bs.length < a + (takeC ls (bs.drop a)).2.1 + rW (takeC ls (bs.drop a)).1
  ·rw [if_pos h2] at hO ⊢
   cases hO
   rw [if_pos (by omega)]
  ·rw [if_neg h2] at hO ⊢
   cases hO
   rw [if_neg (show ¬ (0 : Nat) ≠ 0 by omega)]
theorem oneR_ok {ls : List Nat} {bs : List Bool} {a x y a2 : Nat} (hok : lensOK ls) (hO : oneR ls bs a = (x, y, 0, a2)) : x < ls.length ∧ rL x ≤ y ∧ y ≤ rH x := by
 unfold oneR at hO
 split at hO
 ·rename_i h
  have := congrArg (fun z => z.2.2.1) hO
  simp only at this
  omega
 ·rename_i h
  split at hO
  ·have := congrArg (fun z => z.2.2.1) hO
   simp at this
  ·have hs := takeC_sym hok (Decidable.not_not.1 h)
   obtain ⟨hs1, _⟩ := hs
   cases hO
   exact ⟨hs1, Nat.le_add_right _ _, rL_num (numB_lt _ _ _)⟩
theorem headE_num {bs : List Bool} {a : Nat} {ok : Bool} (h : headE bs a ok = 0) : 1 ≤ numB bs a 9 ∧ numB bs a 9 ≤ 320 := by
 unfold headE at h
 split at h
 ·omega
 ·split at h
  ·omega
  ·omega
theorem perm_cba {a b c : Res} {F : List Res} : (a :: b :: c :: F).Perm (c :: b :: a :: F) :=
 ((List.Perm.swap _ _ _).trans ((List.Perm.swap _ _ _).cons _)).trans (List.Perm.swap _ _ _)
theorem rtake_runs {B q m c a : Nat} {A : Option Addr} {l : List UInt8} {F : List Res} {h0 : Heap} (st0 : St B h0 h0 (rdG q A m c a :: F)) (hrB : ∀ h', Low B h0 h' → Rd h' A (l.map byteV)) (hl : l.length = m) (hm : m ≤ 1073741824) (ha : a ≤ 8 * m) :
  Ret Tryz.prog 65 [.pointer (some ⟨q, 0, none⟩)] h0 fun v h' => ∃ w a', v = retVal [w, nV (takeR (bitsB l) a (okR (bitsB l) a)).2.2] ∧ a' ≤ 8 * m ∧ ((takeR (bitsB l) a (okR (bitsB l) a)).2.2 = 0 → a' = (takeR (bitsB l) a (okR (bitsB l) a)).2.1) ∧
   St B h0 h' (Bn.row 3 1 w ((takeR (bitsB l) a (okR (bitsB l) a)).1.map nV) :: rdG q A m c a' :: F) := by
 have hR : takeR (bitsB l) a (okR (bitsB l) a) = if headE (bitsB l) a (okR (bitsB l) a) ≠ 0 then ([], 0, headE (bitsB l) a (okR (bitsB l) a)) else goT (lens19 (bitsB l) (a + 9) 19) (bitsB l) (numB (bitsB l) a 9) 321 (a + 85) [] := rfl
 obtain ⟨R, hRe⟩ : ∃ R, takeR (bitsB l) a (okR (bitsB l) a) = R := ⟨_, rfl⟩
 rw [hRe] at hR ⊢
 refine ret_of_X Tryz.func65 rfl rfl fun w0 hw0 => ?_
 simp only [argE, Nat.zero_add, Nat.reduceAdd]
 refine X_seq (X_reg (XA rfl rfl rfl ?_))
 by_cases he : headE (bitsB l) a (okR (bitsB l) a) = 0
 ·refine XA rfl rfl rfl (XR_nil (X_seq (X_seq (X_reg (XV rfl rfl rfl ?_)))))
  refine XR_a (op_ptr_nil rfl rfl rfl) rfl rfl ?_
  refine XR_nil (X_else rfl (X_skip (X_seq (X_reg (XV rfl rfl rfl ?_)))))
  refine XR_wa (opl_call (head_spec st0 hrB hl hm ha) rfl (by kernel_rfl)) rfl rfl rfl ?_
  rintro _ hp ⟨n', w', a1, rfl, ha1, hok1, hbad1⟩
  refine XV rfl rfl rfl (XR_a (op_extract rfl rfl) rfl rfl (XR_a (op_extract rfl rfl) rfl rfl (XR_a (op_extract rfl rfl) rfl rfl (XA rfl rfl rfl (XA rfl rfl rfl (XA rfl rfl rfl (XR_nil (X_seq (X_seq ?_)))))))))
  refine X_reg (XV rfl rfl rfl ?_)
  refine XR_a (op_neq rfl rfl) rfl rfl ?_
  refine XR_as (.bool false) (congrArg Value.bool (decide_eq_false (by omega))) ?_
  refine XR_nil (X_else rfl (X_skip (X_seq (X_reg (XA rfl rfl rfl (XR_nil (X_seq (X_block ?_))))))))
  obtain ⟨rfl, ha85, hlok, p, rfl, st⟩ := hok1 he
  obtain ⟨hn1, hn320⟩ := headE_num he
  rw [if_neg (by omega)] at hR
  have h19 := lens19_len (bitsB l) (a + 9) 19
  obtain ⟨ls, hls⟩ : ∃ ls, lens19 (bitsB l) (a + 9) 19 = ls := ⟨_, rfl⟩
  obtain ⟨n, hn⟩ : ∃ n, numB (bitsB l) a 9 = n := ⟨_, rfl⟩
  rw [hls] at st hlok hR h19
  rw [hn] at hR hn1 hn320 ⊢
  clear hok1 hbad1
  replace st := st.nilrow 3 1
  refine X_loop (fun s => n - s.2.2.1.length) (fun s => [(0, .pointer (some ⟨q, 0, none⟩)), (4, nV n), (5, .pointer (some ⟨p, 0, none⟩)), (7, s.2.2.2)])
   (fun (s : Nat × Nat × List Nat × Value) hp => goT ls (bitsB l) n s.1 s.2.1 s.2.2.1 = R ∧ n < s.1 + s.2.2.1.length ∧ s.2.2.1.length ≤ n ∧ s.2.1 ≤ 8 * m ∧ St B h0 hp (Bn.row 3 1 s.2.2.2 (s.2.2.1.map nV) :: codeR p ls :: rdG q A m c s.2.1 :: F))
   (321, a + 85, [], _) (.cons rfl (.cons rfl (.cons rfl (.cons rfl (.nil _))))) ⟨hR.symm, by simp only [List.length_nil]; omega, by simp, ha85, st⟩ ?_
  clear st hR
  rintro ⟨f, a1, L, v⟩ hp ⟨hg, hf, hLn, ha1, st⟩
  simp only at hg hf hLn ha1 st ⊢
  obtain ⟨A9, n9, c9, rfl, hl9, _, _, _⟩ := st.row 0 rfl
  rw [List.length_map, Nat.mul_one] at hl9
  refine X_seq (X_seq (X_reg (XV rfl rfl rfl ?_)))
  refine XR_a (op_len rfl rfl rfl) rfl rfl ?_
  refine XV rfl rfl rfl ?_
  refine XR_a (op_lss rfl rfl) rfl rfl ?_
  refine XR_nil ?_
  refine X_if rfl (fun h => ?_) (fun h => ?_)
  ·obtain ⟨f', rfl⟩ : ∃ f', f = f' + 1 := ⟨f - 1, by omega⟩
   obtain ⟨⟨x, y, e, a2⟩, hO⟩ : ∃ O, oneR ls (bitsB l) a1 = O := ⟨_, rfl⟩
   rw [goT_step (by omega) hO] at hg
   have h1 := one_spec (st.here.perm perm_cba) hlok (fun h' hx => hrB h' (st.low.trans hx)) hl hm ha1
   rw [hO] at h1
   simp only at h1
   refine X_skip (X_block (X_seq (X_reg (XV rfl rfl rfl (XV rfl rfl rfl ?_)))))
   refine XR_wa (opl_call (h1) rfl (by kernel_rfl)) rfl rfl rfl ?_
   rintro _ hp2 ⟨rfl, ha2, st2⟩
   replace st := st.trans (st2.perm perm_cba)
   refine XV rfl rfl rfl (XR_a (op_extract rfl rfl) rfl rfl (XR_a (op_extract rfl rfl) rfl rfl ?_))
   refine XR_wa (opl_new rfl) rfl rfl rfl ?_
   rintro _ hp ⟨p8, rfl, hnew⟩
   replace st := st.new hnew
   refine XR_wn (opl_store_whole (us := [nV x, nV y]) st 0 rfl rfl rfl rfl rfl (one_nV [x, y]) rfl) rfl rfl fun _ hp st => ?_
   simp only [List.set_cons_zero] at st
   refine XA rfl rfl rfl (XR_nil (X_seq (X_seq (X_reg (XV rfl rfl rfl ?_)))))
   refine XR_a (op_eql rfl rfl) rfl rfl ?_
   refine XR_nil ?_
   refine X_if rfl (fun h => ?_) (fun h => ?_)
   ·obtain rfl : e = 0 := by omega
    obtain ⟨hx19, hy1, hy2⟩ := oneR_ok hlok hO
    have hrh := rH_le x
    rw [if_neg (show ¬ (0 : Nat) ≠ 0 by omega)] at hg
    refine X_reg (XV rfl rfl rfl ?_)
    refine XR_a (op_ldA (st.cells 0 rfl) rfl rfl rfl rfl) rfl rfl ?_
    by_cases hz : x = 16 ∧ L.length = 0
    ·refine XR_wa (opl_call (add_bad (st.here.perm (List.Perm.swap _ _ _)) (by omega) hy1 hy2 (by omega) hz) rfl (by kernel_rfl)) rfl rfl rfl ?_
     rintro _ hp3 ⟨rfl, st3⟩
     replace st := st.trans st3
     rw [if_pos hz] at hg
     refine XV rfl rfl rfl (XR_a (op_extract rfl rfl) rfl rfl (XR_a (op_extract rfl rfl) rfl rfl (XA rfl rfl rfl (XA rfl rfl rfl (XR_nil (X_block (X_seq (X_reg (XV rfl rfl rfl ?_)))))))))
     refine XR_a (op_neq rfl rfl) rfl rfl ?_
     refine XA rfl rfl rfl (XR_nil (X_then rfl (X_seq (X_reg (XV rfl rfl rfl (XA rfl rfl rfl (XA rfl rfl rfl (XR_nil ?_))))))))
     refine X_ret (.cons (.tmp rfl) (.cons (.tmp rfl) .nil)) ?_
     rw [← hg]
     exact ⟨_, a2, rfl, ha2, fun hh => absurd hh (by decide), (st.tail.tail.nilrow 3 1)⟩
    ·refine XR_wa (opl_call (add_ok (st.here.perm (List.Perm.swap _ _ _)) (by omega) hy1 hy2 (by omega) hz) rfl (by kernel_rfl)) rfl rfl rfl ?_
     rintro _ hp3 ⟨w3, rfl, st3⟩
     replace st := st.trans st3
     rw [if_neg hz] at hg
     obtain ⟨A8, n8, c8, rfl, hl8, _, _, _⟩ := st.row 0 rfl
     rw [List.length_map, Nat.mul_one, rAdd_len] at hl8
     refine XV rfl rfl rfl (XR_a (op_extract rfl rfl) rfl rfl (XR_a (op_extract rfl rfl) rfl rfl (XA rfl rfl rfl (XA rfl rfl rfl (XR_nil (X_block (X_seq (X_reg (XV rfl rfl rfl ?_)))))))))
     refine XR_a (op_neq rfl rfl) rfl rfl ?_
     refine XA rfl rfl rfl (XR_nil (X_else rfl (X_seq (X_reg (XV rfl rfl rfl ?_)))))
     refine XR_a (op_len rfl rfl rfl) rfl rfl ?_
     refine XV rfl rfl rfl ?_
     refine XR_a (op_gtr rfl rfl) rfl rfl ?_
     refine XA rfl rfl rfl (XR_nil ?_)
     refine X_if rfl (fun h => ?_) (fun h => ?_)
     ·refine X_seq (X_reg (XA rfl rfl rfl (XA rfl rfl rfl (XR_nil ?_))))
      refine X_ret (.cons (.tmp rfl) (.cons (.tmp rfl) .nil)) ?_
      rw [if_pos (show n < L.length + y by omega)] at hg
      rw [← hg]
      exact ⟨_, a2, rfl, ha2, fun hh => absurd hh (by decide), (st.tail.tail.tail.nilrow 3 1)⟩
     ·refine X_skip (X_blk (X_blk ?_))
      rw [if_neg (show ¬ n < L.length + y by omega)] at hg
      have st9 := (st.perm ((List.Perm.swap _ _ _))).tail
      have hrp := rL_pos x
      exact X_again (f', a2, rAdd L x y, _) (.cons rfl (.cons rfl (.cons rfl (.cons rfl (.nil _))))) ⟨hg, by simp only [rAdd_len]; omega, by simp only [rAdd_len]; omega, ha2, st9⟩ (by simp only [rAdd_len]; have := rL_pos x; omega)
   ·refine X_skip (X_block (X_seq (X_reg (XV rfl rfl rfl ?_))))
    refine XR_a (op_neq rfl rfl) rfl rfl ?_
    refine XA rfl rfl rfl (XR_nil ?_)
    refine X_if rfl (fun h => ?_) (fun h => ?_)
    ·refine X_seq (X_reg (XV rfl rfl rfl (XA rfl rfl rfl (XA rfl rfl rfl (XR_nil ?_)))))
     refine X_ret (.cons (.tmp rfl) (.cons (.tmp rfl) .nil)) ?_
     rw [if_pos (show e ≠ 0 by omega)] at hg
     rw [← hg]
     exact ⟨_, a2, rfl, ha2, fun hh => absurd hh (by simp only; omega), (st.tail.tail.tail.nilrow 3 1)⟩
    ·exact absurd h (by omega)
  ·refine X_exit rfl (X_seq (X_reg (XV rfl rfl rfl (XA rfl rfl rfl (XA rfl rfl rfl (XR_nil ?_))))))
   refine X_ret (.cons (.tmp rfl) (.cons (.tmp rfl) .nil)) ?_
   obtain ⟨f', rfl⟩ : ∃ f', f = f' + 1 := ⟨f - 1, by omega⟩
   rw [goT, if_pos (by omega)] at hg
   rw [← hg]
   exact ⟨_, a1, rfl, ha1, fun _ => rfl, (st.perm ((List.Perm.swap _ _ _))).tail⟩
 ·refine XA rfl rfl rfl (XR_nil (X_seq (X_seq (X_reg (XV rfl rfl rfl ?_)))))
  refine XR_a (op_ptr_nil rfl rfl rfl) rfl rfl ?_
  refine XR_nil (X_else rfl (X_skip (X_seq (X_reg (XV rfl rfl rfl ?_)))))
  refine XR_wa (opl_call (head_spec st0 hrB hl hm ha) rfl (by kernel_rfl)) rfl rfl rfl ?_
  rintro _ hp ⟨n', w', a1, rfl, ha1, hok1, hbad1⟩
  refine XV rfl rfl rfl (XR_a (op_extract rfl rfl) rfl rfl (XR_a (op_extract rfl rfl) rfl rfl (XR_a (op_extract rfl rfl) rfl rfl (XA rfl rfl rfl (XA rfl rfl rfl (XA rfl rfl rfl (XR_nil (X_seq (X_seq ?_)))))))))
  refine X_reg (XV rfl rfl rfl ?_)
  refine XR_a (op_neq rfl rfl) rfl rfl ?_
  refine XR_as (.bool true) (congrArg Value.bool (decide_eq_true (by omega))) ?_
  refine XR_nil (X_then rfl (X_seq (X_reg (XV rfl rfl rfl (XA rfl rfl rfl (XA rfl rfl rfl (XR_nil ?_)))))))
  refine X_ret (.cons (.tmp rfl) (.cons (.tmp rfl) .nil)) ?_
  rw [if_pos he] at hR
  rw [hR]
  exact ⟨_, a1, rfl, ha1, fun hh => absurd hh he, (hbad1 he).nilrow 3 1⟩
end Go.Bn
end

section
set_option linter.unusedVariables false
set_option linter.unusedSimpArgs false
namespace Go.Bn
structure Kls where
  num : Int
  bits : Int
  ext : Int
  deriving DecidableEq
def Kls.nil : Kls := ⟨0, 0, 0⟩
def bitsC (i : Nat) : Nat := if i < 4 then 0 else i / 2 - 1
def baseC : Nat → Nat
  | 0 => 0
  | i + 1 => baseC i + 2 ^ bitsC i
def lenN (v : Nat) : Nat := if v = 0 then 0 else Nat.log2 v + 1
theorem two_lt (k : Nat) : 0 < 2 ^ k := Nat.pow_pos (by omega)
theorem baseC_even (n : Nat) : baseC (2 * (n + 1) + 2) = 2 * 2 ^ (n + 1) ∧ baseC (2 * (n + 1) + 3) = 3 * 2 ^ (n + 1) := by
 induction n with
 | zero => decide
 | succ n ih =>
  have b3 : bitsC (2 * (n + 1) + 3) = n + 1 := by unfold bitsC; rw [if_neg (by omega)]; omega
  have b2 : bitsC (2 * (n + 1 + 1) + 2) = n + 1 + 1 := by unfold bitsC; rw [if_neg (by omega)]; omega
  have e1 : baseC (2 * (n + 1 + 1) + 2) = baseC (2 * (n + 1) + 3) + 2 ^ (n + 1) := by
   rw [show 2 * (n + 1 + 1) + 2 = (2 * (n + 1) + 3) + 1 by omega, baseC, b3]
  have e2 : baseC (2 * (n + 1 + 1) + 3) = baseC (2 * (n + 1 + 1) + 2) + 2 ^ (n + 1 + 1) := by
   conv => lhs; rw [show 2 * (n + 1 + 1) + 3 = (2 * (n + 1 + 1) + 2) + 1 from rfl, baseC, b2]
  rw [ih.2] at e1
  refine ⟨by rw [e1, Nat.pow_succ 2 (n + 1)]; omega, by rw [e2, e1, Nat.pow_succ 2 (n + 1)]; omega⟩
theorem baseC_form (i : Nat) (h : 4 ≤ i) : baseC i = (2 + i % 2) * 2 ^ (i / 2 - 1) := by
 rcases (by omega : i % 2 = 0 ∨ i % 2 = 1) with h2 | h2
 ·obtain ⟨n, rfl⟩ : ∃ n, i = 2 * (n + 1) + 2 := ⟨i / 2 - 2, by omega⟩
  rw [(baseC_even n).1, h2, show (2 * (n + 1) + 2) / 2 - 1 = n + 1 by omega]
 ·obtain ⟨n, rfl⟩ : ∃ n, i = 2 * (n + 1) + 3 := ⟨i / 2 - 2, by omega⟩
  rw [(baseC_even n).2, h2, show (2 * (n + 1) + 3) / 2 - 1 = n + 1 by omega]
theorem baseC_small : ∀ i, i < 5 → baseC i = i := by decide
theorem baseC_lt (i : Nat) : baseC i < baseC (i + 1) := by
 rw [baseC]; have := two_lt (bitsC i); omega
theorem baseC_mono {i j : Nat} (h : i ≤ j) : baseC i ≤ baseC j := by
 induction j with
 | zero =>
  obtain rfl : i = 0 := by omega
  exact Nat.le_refl _
 | succ j ih =>
  rcases Nat.lt_or_ge j i with h1 | h1
  ·obtain rfl : i = j + 1 := by omega
   exact Nat.le_refl _
  ·have := ih h1; have := baseC_lt j; omega
def klsN (v : Nat) : Nat := if v < 4 then v else 2 * (lenN v - 2) + v / 2 ^ (lenN v - 2)
theorem len_spec {v : Nat} (h : 4 ≤ v) : 3 ≤ lenN v ∧ 2 ^ (lenN v - 1) ≤ v ∧ v < 2 ^ lenN v := by
 have h0 : v ≠ 0 := by omega
 have e : lenN v = Nat.log2 v + 1 := by unfold lenN; rw [if_neg h0]
 have h1 := Nat.log2_self_le h0
 have h2 : v < 2 ^ (Nat.log2 v + 1) := Nat.lt_log2_self
 have h3 : 2 ≤ Nat.log2 v := (Nat.le_log2 h0).2 (by omega)
 rw [e]
 exact ⟨by omega, by simpa using h1, h2⟩
theorem kls_spec {v : Nat} (h : 4 ≤ v) : ∃ n q, lenN v = n + 2 ∧ 1 ≤ n ∧ (q = 2 ∨ q = 3) ∧ v / 2 ^ n = q ∧ klsN v = 2 * n + q ∧ bitsC (2 * n + q) = n ∧ baseC (2 * n + q) = q * 2 ^ n ∧ q * 2 ^ n + v % 2 ^ n = v := by
 obtain ⟨h1, h2, h3⟩ := len_spec h
 obtain ⟨n, hn⟩ : ∃ n, lenN v = n + 2 := ⟨lenN v - 2, by omega⟩
 rw [hn, show n + 2 - 1 = n + 1 by omega] at h2
 rw [hn] at h3
 have p1 : 2 ^ (n + 1) = 2 * 2 ^ n := by rw [Nat.pow_succ, Nat.mul_comm]
 have p2 : 2 ^ (n + 2) = 4 * 2 ^ n := by rw [Nat.pow_succ, p1]; omega
 have hd := Nat.div_add_mod v (2 ^ n)
 have hm := Nat.mod_lt v (two_lt n)
 have hq : v / 2 ^ n = 2 ∨ v / 2 ^ n = 3 := by
  have a1 : 2 ≤ v / 2 ^ n := (Nat.le_div_iff_mul_le (two_lt n)).2 (by omega)
  have a2 : v / 2 ^ n < 4 := (Nat.div_lt_iff_lt_mul (two_lt n)).2 (by omega)
  omega
 refine ⟨n, v / 2 ^ n, hn, by omega, hq, rfl, ?_, ?_, ?_, ?_⟩
 ·unfold klsN; rw [if_neg (by omega), hn]; rfl
 ·unfold bitsC; rw [if_neg (by omega)]; omega
 ·rw [baseC_form _ (by omega)]
  rcases hq with e | e <;> rw [e]
  ·rw [show (2 + (2 * n + 2) % 2) = 2 by omega, show (2 * n + 2) / 2 - 1 = n by omega]
  ·rw [show (2 + (2 * n + 3) % 2) = 3 by omega, show (2 * n + 3) / 2 - 1 = n by omega]
 ·rw [Nat.mul_comm]; exact hd
theorem klsN_between (v : Nat) : baseC (klsN v) ≤ v ∧ v < baseC (klsN v + 1) ∧ (v < 32768 → klsN v < 30) := by
 rcases Nat.lt_or_ge v 4 with h | h
 ·have e : klsN v = v := by unfold klsN; rw [if_pos h]
  rw [e, baseC_small v (by omega), baseC_small (v + 1) (by omega)]
  exact ⟨Nat.le_refl _, by omega, fun _ => by omega⟩
 ·obtain ⟨n, q, hn, hn1, hq, hv, hc, hb, hbase, hsum⟩ := kls_spec h
  have hm := Nat.mod_lt v (two_lt n)
  rw [hc, baseC, hbase, hb]
  refine ⟨by omega, by omega, fun hlt => ?_⟩
  have h2 : 2 ^ (n + 1) < 2 ^ 15 := by
   have : q * 2 ^ n ≤ v := by omega
   rw [Nat.pow_succ]
   rcases hq with rfl | rfl <;> omega
  have := (Nat.pow_lt_pow_iff_right (by omega : 1 < 2)).1 h2
  omega
theorem klsN_unique {v c : Nat} (h1 : baseC c ≤ v) (h2 : v < baseC (c + 1)) : klsN v = c := by
 obtain ⟨g1, g2, _⟩ := klsN_between v
 rcases Nat.lt_or_ge (klsN v) c with h | h
 ·have := baseC_mono (show klsN v + 1 ≤ c by omega); omega
 ·rcases Nat.lt_or_ge c (klsN v) with h' | h'
  ·have := baseC_mono (show c + 1 ≤ klsN v by omega); omega
  ·omega
theorem klsN_mono {v w : Nat} (h : v ≤ w) : klsN v ≤ klsN w := by
 obtain ⟨g1, _, _⟩ := klsN_between v
 obtain ⟨_, k2, _⟩ := klsN_between w
 rcases Nat.lt_or_ge (klsN w) (klsN v) with h' | h'
 ·have := baseC_mono (show klsN w + 1 ≤ klsN v by omega); omega
 ·exact h'
def klsOf (v : Nat) : Kls := ⟨klsN v, bitsC (klsN v), ((v - baseC (klsN v) : Nat) : Int)⟩
theorem klsOf_small {v : Nat} (h : v < 4) : klsOf v = ⟨v, 0, 0⟩ := by
 have e : klsN v = v := by unfold klsN; rw [if_pos h]
 unfold klsOf
 rw [e, baseC_small v (by omega)]
 unfold bitsC
 rw [if_pos h]; simp
theorem klsOf_big {v n q : Nat} (hc : klsN v = 2 * n + q) (hb : bitsC (2 * n + q) = n) (hbase : baseC (2 * n + q) = q * 2 ^ n) (hsum : q * 2 ^ n + v % 2 ^ n = v) : klsOf v = ⟨((2 * n + q : Nat) : Int), n, ((v % 2 ^ n : Nat) : Int)⟩ := by
 unfold klsOf
 rw [hc, hb, hbase, show v - q * 2 ^ n = v % 2 ^ n by omega]
def ofC (v : Int) : Kls × Bool := if v < 0 ∨ 32767 < v then (Kls.nil, false) else (klsOf v.toNat, true)
def valC (c : Kls) : Option Nat :=
  if c.num < 0 ∨ 30 ≤ c.num then none
  else if c.bits ≠ bitsC c.num.toNat then none
  else if (2 : Int) ^ bitsC c.num.toNat ≤ c.ext then none
  else some (baseC c.num.toNat + c.ext.toNat)
theorem valC_some {c : Kls} {v : Nat} (h : valC c = some v) : 0 ≤ c.num ∧ c.num < 30 ∧ c.bits = bitsC c.num.toNat ∧ c.ext < (2 : Int) ^ bitsC c.num.toNat ∧ v = baseC c.num.toNat + c.ext.toNat := by
 unfold valC at h
 split at h
 ·cases h
 ·split at h
  ·cases h
  ·split at h
   ·cases h
   ·cases h
    rename_i a b d
    exact ⟨by omega, by omega, Decidable.not_not.1 b, by omega, rfl⟩
theorem valC_lt {c : Kls} {v : Nat} (h : valC c = some v) : v < 65536 := by
 obtain ⟨h1, h2, h3, h4, h5⟩ := valC_some h
 have hb : c.ext.toNat < 2 ^ bitsC c.num.toNat := by
  have : ((2 ^ bitsC c.num.toNat : Nat) : Int) = (2 : Int) ^ bitsC c.num.toNat := by rw [Int.natCast_pow]; rfl
  have := two_lt (bitsC c.num.toNat)
  omega
 have := baseC_mono (show c.num.toNat + 1 ≤ 30 by omega)
 rw [baseC, show baseC 30 = 65536 / 2 by decide] at this
 omega
theorem valC_of {v : Nat} (h : v < 32768) : valC (klsOf v) = some v := by
 obtain ⟨g1, g2, g3⟩ := klsN_between v
 have := g3 h
 have hp : ((2 ^ bitsC (klsN v) : Nat) : Int) = (2 : Int) ^ bitsC (klsN v) := by rw [Int.natCast_pow]; rfl
 rw [baseC] at g2
 unfold valC klsOf
 simp only [Int.toNat_natCast]
 rw [if_neg (by omega), if_neg (by simp), if_neg (by rw [← hp]; omega)]
 congr 1; omega
structure Tok where
  byte : Int
  len : Int
  dist : Int
  deriving DecidableEq
def Tok.nil : Tok := ⟨0, 0, 0⟩
def Tok.right (t : Tok) : Prop := if t.len = 0 then t.dist = 0 else t.byte = 0 ∧ 3 ≤ t.len ∧ t.len ≤ 258 ∧ 1 ≤ t.dist ∧ t.dist ≤ 32768
instance (t : Tok) : Decidable t.right := by unfold Tok.right; infer_instance
structure Sy where
  a : Kls
  b : Kls
  m : Bool
  deriving DecidableEq
def Sy.nil : Sy := ⟨Kls.nil, Kls.nil, false⟩
def splitY (t : Tok) : Sy :=
  if t.len = 0 then ⟨⟨t.byte, 0, 0⟩, Kls.nil, false⟩
  else ⟨⟨(klsOf (t.len - 3).toNat).num + 257, (klsOf (t.len - 3).toNat).bits, (klsOf (t.len - 3).toNat).ext⟩, klsOf (t.dist - 1).toNat, true⟩
def splitT (t : Tok) : Sy × Bool := if t.right then (splitY t, true) else (Sy.nil, false)
def matchT (r : Sy) : Tok × Bool :=
  match valC ⟨r.a.num - 257, r.a.bits, r.a.ext⟩, valC r.b with
  | some x, some y => if (Tok.mk 0 (x + 3) (y + 1)).right then (Tok.mk 0 (x + 3) (y + 1), true) else (Tok.nil, false)
  | _, _ => (Tok.nil, false)
def joinT (r : Sy) : Tok × Bool :=
  if r.m = true then (if 257 ≤ r.a.num ∧ r.a.num < 273 then matchT r else (Tok.nil, false))
  else if 0 ≤ r.a.num ∧ r.a.num < 256 ∧ r = ⟨⟨r.a.num, 0, 0⟩, Kls.nil, false⟩ then (⟨r.a.num, 0, 0⟩, true)
  else (Tok.nil, false)
theorem klsN_255 {v : Nat} (h : v < 256) : klsN v < 16 := by
 have := klsN_mono (show v ≤ 255 by omega)
 have e : klsN 255 = 15 := klsN_unique (by decide) (by decide)
 omega
theorem join_split {t : Tok} (h : t.right) (hb : 0 ≤ t.byte ∧ t.byte < 256) : joinT (splitY t) = (t, true) ∧ 0 ≤ (splitY t).a.num ∧ (splitY t).a.num < 273 ∧ (splitY t).a.num ≠ 256 ∧ 0 ≤ (splitY t).b.num ∧ (splitY t).b.num < 30 := by
 have h' := h
 unfold Tok.right at h
 by_cases h0 : t.len = 0
 ·rw [if_pos h0] at h
  have e : splitY t = ⟨⟨t.byte, 0, 0⟩, Kls.nil, false⟩ := by unfold splitY; rw [if_pos h0]
  rw [e]
  refine ⟨?_, by simp only; omega, by simp only; omega, by simp only; omega, by simp [Kls.nil], by simp [Kls.nil]⟩
  unfold joinT
  rw [if_neg (by simp), if_pos ⟨hb.1, hb.2, rfl⟩]
  cases t; simp only at *; subst h0 h; rfl
 ·rw [if_neg h0] at h
  obtain ⟨h1, h2, h3, h4, h5⟩ := h
  have e : splitY t = ⟨⟨(klsOf (t.len - 3).toNat).num + 257, (klsOf (t.len - 3).toNat).bits, (klsOf (t.len - 3).toNat).ext⟩, klsOf (t.dist - 1).toNat, true⟩ := by unfold splitY; rw [if_neg h0]
  have c1 : (t.len - 3).toNat < 256 := by omega
  have c2 : (t.dist - 1).toNat < 32768 := by omega
  have k1 := klsN_255 c1
  have k2 := (klsN_between (t.dist - 1).toNat).2.2 c2
  have n1 : (klsOf (t.len - 3).toNat).num = klsN (t.len - 3).toNat := rfl
  have n2 : (klsOf (t.dist - 1).toNat).num = klsN (t.dist - 1).toNat := rfl
  rw [e]
  refine ⟨?_, by simp only; omega, by simp only; omega, by simp only; omega, by simp only; omega, by simp only; omega⟩
  unfold joinT
  rw [if_pos rfl, if_pos (by simp only; omega)]
  unfold matchT
  simp only [show (klsOf (t.len - 3).toNat).num + 257 - 257 = (klsOf (t.len - 3).toNat).num by omega]
  rw [show (Kls.mk (klsOf (t.len - 3).toNat).num (klsOf (t.len - 3).toNat).bits (klsOf (t.len - 3).toNat).ext) = klsOf (t.len - 3).toNat from rfl, valC_of (by omega), valC_of c2]
  have et : Tok.mk 0 (((t.len - 3).toNat : Int) + 3) (((t.dist - 1).toNat : Int) + 1) = t := by
   cases t; simp only at *; congr 1 <;> omega
  simp only [et]
  rw [if_pos h']
end Go.Bn
end

section
set_option linter.unusedVariables false
set_option linter.unusedSimpArgs false
namespace Go.Bn
noncomputable def clsT (ls : List Nat) (fr : Nat) (bs : List Bool) (a : Nat) : Kls × Nat × Nat :=
  if (takeC ls (bs.drop a)).2.2 ≠ 0 ∨ (takeC ls (bs.drop a)).1 < fr then (⟨(takeC ls (bs.drop a)).1, 0, 0⟩, a + (takeC ls (bs.drop a)).2.1, (takeC ls (bs.drop a)).2.2)
  else if bs.length - (a + (takeC ls (bs.drop a)).2.1) < bitsC ((takeC ls (bs.drop a)).1 - fr) then (Kls.nil, a + (takeC ls (bs.drop a)).2.1, 2)
  else (⟨(takeC ls (bs.drop a)).1, bitsC ((takeC ls (bs.drop a)).1 - fr), (numB bs (a + (takeC ls (bs.drop a)).2.1) (bitsC ((takeC ls (bs.drop a)).1 - fr)) : Nat)⟩, a + (takeC ls (bs.drop a)).2.1 + bitsC ((takeC ls (bs.drop a)).1 - fr), 0)
noncomputable def nextT (la lb : List Nat) (bs : List Bool) (a : Nat) : Tok × Nat × Bool × Nat :=
  if (clsT la 257 bs a).2.2 ≠ 0 ∨ (clsT la 257 bs a).1.num = 256 then (Tok.nil, (clsT la 257 bs a).2.1, true, (clsT la 257 bs a).2.2)
  else if 256 < (clsT la 257 bs a).1.num then
    if (clsT lb 0 bs (clsT la 257 bs a).2.1).2.2 ≠ 0 then (Tok.nil, (clsT lb 0 bs (clsT la 257 bs a).2.1).2.1, true, (clsT lb 0 bs (clsT la 257 bs a).2.1).2.2)
    else if (joinT ⟨(clsT la 257 bs a).1, (clsT lb 0 bs (clsT la 257 bs a).2.1).1, true⟩).2 = true then ((joinT ⟨(clsT la 257 bs a).1, (clsT lb 0 bs (clsT la 257 bs a).2.1).1, true⟩).1, (clsT lb 0 bs (clsT la 257 bs a).2.1).2.1, false, 0)
    else (Tok.nil, (clsT lb 0 bs (clsT la 257 bs a).2.1).2.1, true, 3)
  else if (joinT ⟨(clsT la 257 bs a).1, Kls.nil, false⟩).2 = true then ((joinT ⟨(clsT la 257 bs a).1, Kls.nil, false⟩).1, (clsT la 257 bs a).2.1, false, 0)
  else (Tok.nil, (clsT la 257 bs a).2.1, true, 3)
def Tok.size (t : Tok) : Nat := max 1 t.len.toNat
noncomputable def goB (la lb : List Nat) (bs : List Bool) (most : Int) : Nat → Nat → Nat → List Tok → List Tok × Nat × Nat × Nat
  | 0, _, _, _ => ([], 0, 0, 2)
  | f + 1, a, sz, acc =>
    if (nextT la lb bs a).2.2.1 = true then (if (nextT la lb bs a).2.2.2 ≠ 0 then ([], 0, 0, (nextT la lb bs a).2.2.2) else (acc, sz, (nextT la lb bs a).2.1, 0))
    else if (sz : Int) < (nextT la lb bs a).1.dist then ([], 0, 0, 3)
    else if most - sz < (nextT la lb bs a).1.size then ([], 0, 0, 5)
    else goB la lb bs most f (nextT la lb bs a).2.1 (sz + (nextT la lb bs a).1.size) (acc ++ [(nextT la lb bs a).1])
def castI (l : List Nat) : List Int := l.map fun n : Nat => (n : Int)
noncomputable def codesT (bs : List Bool) (a : Nat) : Nat × List Nat × List Nat × Nat :=
  if (takeR bs a (okR bs a)).2.2 ≠ 0 then ((takeR bs a (okR bs a)).2.2, [], [], 0)
  else if (takeR bs (takeR bs a (okR bs a)).2.1 (okR bs (takeR bs a (okR bs a)).2.1)).2.2 ≠ 0 then ((takeR bs (takeR bs a (okR bs a)).2.1 (okR bs (takeR bs a (okR bs a)).2.1)).2.2, [], [], 0)
  else if (takeR bs a (okR bs a)).1.length ≠ 273 ∨ (takeR bs (takeR bs a (okR bs a)).2.1 (okR bs (takeR bs a (okR bs a)).2.1)).1.length ≠ 30 then (3, [], [], 0)
  else if ¬ rightC (castI (takeR bs a (okR bs a)).1) ∨ ¬ rightC (castI (takeR bs (takeR bs a (okR bs a)).2.1 (okR bs (takeR bs a (okR bs a)).2.1)).1) then (13, [], [], 0)
  else (0, (takeR bs a (okR bs a)).1, (takeR bs (takeR bs a (okR bs a)).2.1 (okR bs (takeR bs a (okR bs a)).2.1)).1, (takeR bs (takeR bs a (okR bs a)).2.1 (okR bs (takeR bs a (okR bs a)).2.1)).2.1)
noncomputable def blockT (bs : List Bool) (most : Int) : List Tok × Nat × Nat × Nat :=
  if (codesT bs 0).1 ≠ 0 then ([], 0, 0, (codesT bs 0).1) else goB (codesT bs 0).2.1 (codesT bs 0).2.2.1 bs most (bs.length + 1) (codesT bs 0).2.2.2 0 []
theorem castI_toNat (l : List Nat) : (castI l).map Int.toNat = l := cast_toNat l
structure CodesOk (bs : List Bool) (la lb : List Nat) (a : Nat) : Prop where
  oka : lensOK la
  okb : lensOK lb
  lena : la.length = 273
  lenb : lb.length = 30
theorem codesT_ok {bs : List Bool} {a : Nat} (h : (codesT bs a).1 = 0) : CodesOk bs (codesT bs a).2.1 (codesT bs a).2.2.1 a := by
 revert h
 unfold codesT
 obtain ⟨X, hX⟩ : ∃ X, takeR bs a (okR bs a) = X := ⟨_, rfl⟩
 rw [hX]
 obtain ⟨Y, hY⟩ : ∃ Y, takeR bs X.2.1 (okR bs X.2.1) = Y := ⟨_, rfl⟩
 rw [hY]
 split
 ·intro h; exact absurd h ‹_›
 ·split
  ·intro h; exact absurd h ‹_›
  ·split
   ·intro h; cases h
   ·split
    ·intro h; cases h
    ·rename_i h3 h4
     intro _
     have h5 : rightC (castI X.1) ∧ rightC (castI Y.1) := by
      constructor
      ·exact Classical.byContradiction fun hn => h4 (.inl hn)
      ·exact Classical.byContradiction fun hn => h4 (.inr hn)
     have k1 := h5.1.ok
     have k2 := h5.2.ok
     rw [castI_toNat] at k1 k2
     exact ⟨k1, k2, by simp only; omega, by simp only; omega⟩
theorem takeC_small {ls : List Nat} (hok : lensOK ls) (bs : List Bool) : (takeC ls bs).1 < ls.length ∨ (takeC ls bs).1 = 0 := by
 by_cases h : (takeC ls bs).2.2 = 0
 ·obtain ⟨h1, _⟩ := takeC_sym hok h
  exact .inl h1
 ·refine .inr ?_
  rw [takeC_S hok] at h ⊢
  unfold takeS at h ⊢
  cases hf : (qcodes ls).find? (matchQ bs) with
  | some c => rw [hf] at h; exact absurd rfl h
  | none => simp only; split <;> rfl
theorem clsT_num {ls : List Nat} {fr : Nat} {bs : List Bool} {a : Nat} (hok : lensOK ls) (hl : ls.length ≤ fr + 30) (hl2 : ls.length ≤ 320) : 0 ≤ (clsT ls fr bs a).1.num ∧ (clsT ls fr bs a).1.num < 320 ∧ 0 ≤ (clsT ls fr bs a).1.ext ∧ (clsT ls fr bs a).1.ext < 4294967296 := by
 have h1 : (takeC ls (bs.drop a)).1 < 320 := by
  have := hok.1
  rcases takeC_small hok (bs.drop a) with h | h <;> omega
 unfold clsT
 split
 ·exact ⟨by simp only; omega, by simp only; omega, by simp only; omega, by simp only; omega⟩
 ·split
  ·exact ⟨by simp [Kls.nil], by simp [Kls.nil], by simp [Kls.nil], by simp [Kls.nil]⟩
  ·rename_i h2 h3
   have hb : bitsC ((takeC ls (bs.drop a)).1 - fr) ≤ 13 := by
    have : (takeC ls (bs.drop a)).1 - fr < 30 := by
     have := hok.1
     rcases takeC_small hok (bs.drop a) with h | h <;> omega
    unfold bitsC; split <;> omega
   have hn := numB_lt bs (a + (takeC ls (bs.drop a)).2.1) (bitsC ((takeC ls (bs.drop a)).1 - fr))
   have : 2 ^ bitsC ((takeC ls (bs.drop a)).1 - fr) ≤ 2 ^ 13 := Nat.pow_le_pow_right (by omega) hb
   exact ⟨by simp only; omega, by simp only; omega, by simp only; omega, by simp only; omega⟩
theorem clsT_at {ls : List Nat} {fr : Nat} {bs : List Bool} {a : Nat} (hok : lensOK ls) (ha : a ≤ bs.length) : a ≤ (clsT ls fr bs a).2.1 ∧ (clsT ls fr bs a).2.1 ≤ bs.length ∧ ((clsT ls fr bs a).2.2 = 0 → a < (clsT ls fr bs a).2.1) := by
 have hle := takeC_le ls (bs.drop a)
 rw [List.length_drop] at hle
 have hpos := fun h => takeC_pos hok (bs := bs.drop a) h
 unfold clsT
 split
 ·exact ⟨by simp only; omega, by simp only; omega, fun h => by simp only at h ⊢; have := hpos h; omega⟩
 ·split
  ·exact ⟨by simp only; omega, by simp only; omega, fun h => by cases h⟩
  ·rename_i h1 h2
   have := hpos (by omega)
   exact ⟨by simp only; omega, by simp only; omega, fun _ => by simp only; omega⟩
theorem joinT_right {r : Sy} (h : (joinT r).2 = true) : (joinT r).1.right ∧ 0 ≤ (joinT r).1.byte ∧ (joinT r).1.byte < 256 := by
 unfold joinT at *
 split at h
 ·rename_i hm
  split at h
  ·rename_i hr
   rw [if_pos hm, if_pos hr]
   unfold matchT at *
   split at h
   ·rename_i x y hx hy
    split at h
    ·rename_i ht
     simp only [hx, hy, if_pos ht]
     exact ⟨ht, by simp, by simp⟩
    ·cases h
   ·cases h
  ·cases h
 ·split at h
  ·rename_i hm hr
   rw [if_neg hm, if_pos hr]
   exact ⟨by unfold Tok.right; rw [if_pos rfl], hr.1, hr.2.1⟩
  ·cases h
theorem nextT_at {la lb : List Nat} {bs : List Bool} {a : Nat} (oka : lensOK la) (okb : lensOK lb) (ha : a ≤ bs.length) :
  a ≤ (nextT la lb bs a).2.1 ∧ (nextT la lb bs a).2.1 ≤ bs.length ∧ ((nextT la lb bs a).2.2.1 = false → a < (nextT la lb bs a).2.1 ∧ (nextT la lb bs a).2.2.2 = 0 ∧ (nextT la lb bs a).1.right ∧ 0 ≤ (nextT la lb bs a).1.byte ∧ (nextT la lb bs a).1.byte < 256) := by
 obtain ⟨h1, h2, h3⟩ := clsT_at (fr := 257) oka ha
 obtain ⟨k1, k2, k3⟩ := clsT_at (fr := 0) okb h2
 unfold nextT
 split
 ·exact ⟨h1, h2, fun h => by cases h⟩
 ·split
  ·split
   ·exact ⟨by simp only; omega, k2, fun h => by cases h⟩
   ·split
    ·rename_i a1 a2 a3 a4
     exact ⟨by simp only; omega, k2, fun _ => ⟨by simp only; have := h3 (by omega); omega, rfl, joinT_right a4⟩⟩
    ·exact ⟨by simp only; omega, k2, fun h => by cases h⟩
  ·split
   ·rename_i a1 a2 a3
    exact ⟨h1, h2, fun _ => ⟨h3 (by omega), rfl, joinT_right a3⟩⟩
   ·exact ⟨h1, h2, fun h => by cases h⟩
theorem Tok.size_le {t : Tok} (h : t.right) : 1 ≤ t.size ∧ t.size ≤ 258 ∧ (t.size : Int) = max 1 t.len := by
 unfold Tok.right at h
 unfold Tok.size
 split at h <;> refine ⟨by omega, by omega, by omega⟩
theorem goT_at (ls : List Nat) (bs : List Bool) (n : Nat) : ∀ (f a : Nat) (l : List Nat), a ≤ bs.length → (goT ls bs n f a l).2.2 = 0 → a ≤ (goT ls bs n f a l).2.1 ∧ (goT ls bs n f a l).2.1 ≤ bs.length
 | 0, _, _, _, h => by cases h
 | f + 1, a, l, ha, h => by
  revert h
  rw [goT]
  split
  ·exact fun _ => ⟨Nat.le_refl _, ha⟩
  ·split
   ·intro h; exact absurd h ‹_›
   ·split
    ·intro h; cases h
    ·split
     ·intro h; cases h
     ·split
      ·intro h; cases h
      ·intro h
       have := goT_at ls bs n f _ _ (by omega) h
       omega
theorem takeR_at {bs : List Bool} {a : Nat} {ok : Bool} (h : (takeR bs a ok).2.2 = 0) (ha : a ≤ bs.length) : a ≤ (takeR bs a ok).2.1 ∧ (takeR bs a ok).2.1 ≤ bs.length := by
 revert h
 unfold takeR
 split
 ·intro h; exact absurd h ‹_›
 ·rename_i hh
  intro h
  have h85 : a + 85 ≤ bs.length := by
   unfold headE at hh
   refine Classical.byContradiction fun hn => ?_
   revert hh
   split
   ·simp
   ·split
    ·simp
    ·rw [if_pos (by omega)]; simp
  have := goT_at _ bs _ 321 (a + 85) [] h85 h
  omega
theorem codesT_le {bs : List Bool} (h : (codesT bs 0).1 = 0) : (codesT bs 0).2.2.2 ≤ bs.length := by
 revert h
 unfold codesT
 obtain ⟨X, hX⟩ : ∃ X, takeR bs 0 (okR bs 0) = X := ⟨_, rfl⟩
 have h1 := takeR_at (bs := bs) (a := 0) (ok := okR bs 0)
 rw [hX] at h1 ⊢
 obtain ⟨Y, hY⟩ : ∃ Y, takeR bs X.2.1 (okR bs X.2.1) = Y := ⟨_, rfl⟩
 have h2 := takeR_at (bs := bs) (a := X.2.1) (ok := okR bs X.2.1)
 rw [hY] at h2 ⊢
 split
 ·intro h; exact absurd h ‹_›
 ·split
  ·intro h; exact absurd h ‹_›
  ·split
   ·intro h; cases h
   ·split
    ·intro h; cases h
    ·intro _
     have g1 := h1 (by omega) (by omega)
     exact (h2 (by omega) g1.2).2
end Go.Bn
end

section
namespace Go.Bn
def rightL (l : List Tok) : Prop := l.length ≤ 65536 ∧ ∀ t ∈ l, t.right
instance (l : List Tok) : Decidable (rightL l) := by unfold rightL; infer_instance
def addAt (l : List Nat) (i : Nat) : List Nat := l.set i (l.getD i 0 + 1)
theorem addAt_length (l : List Nat) (i : Nat) : (addAt l i).length = l.length := by simp [addAt]
theorem addAt_sum : ∀ (l : List Nat) (i : Nat), (addAt l i).sum ≤ l.sum + 1
 | [], i => by simp [addAt]
 | x :: l, 0 => by simp [addAt]; omega
 | x :: l, i + 1 => by
  have := addAt_sum l i
  simp only [addAt, List.set_cons_succ, List.getD_cons_succ, List.sum_cons] at this ⊢
  omega
theorem le_sum : ∀ {l : List Nat} {x : Nat}, x ∈ l → x ≤ l.sum
 | y :: l, x, h => by
  rw [List.sum_cons]
  rcases List.mem_cons.1 h with rfl | h
  ·omega
  ·have := le_sum h; omega
def stepW (s : List Nat × List Nat × Nat) (y : Sy) : List Nat × List Nat × Nat := (addAt s.1 y.a.num.toNat, if y.m = true then addAt s.2.1 y.b.num.toNat else s.2.1, if y.m = true then s.2.2 + 1 else s.2.2)
def startW : List Nat × List Nat × Nat := ((List.replicate 273 0).set 256 1, List.replicate 30 0, 0)
def foldW (ys : List Sy) : List Nat × List Nat × Nat := ys.foldl stepW startW
theorem foldW_snoc (ys : List Sy) (y : Sy) : foldW (ys ++ [y]) = stepW (foldW ys) y := by simp [foldW, List.foldl_append]
theorem foldW_ok (ys : List Sy) : (foldW ys).1.length = 273 ∧ (foldW ys).2.1.length = 30 ∧ (foldW ys).1.sum ≤ 1 + ys.length ∧ (foldW ys).2.1.sum ≤ ys.length ∧ (foldW ys).2.2 ≤ ys.length := by
 suffices h : ∀ (ys : List Sy) (s : List Nat × List Nat × Nat), s.1.length = 273 → s.2.1.length = 30 → (ys.foldl stepW s).1.length = 273 ∧ (ys.foldl stepW s).2.1.length = 30 ∧ (ys.foldl stepW s).1.sum ≤ s.1.sum + ys.length ∧ (ys.foldl stepW s).2.1.sum ≤ s.2.1.sum + ys.length ∧ (ys.foldl stepW s).2.2 ≤ s.2.2 + ys.length by
  obtain ⟨h1, h2, h3, h4, h5⟩ := h ys startW (by decide +kernel) (by decide +kernel)
  refine ⟨h1, h2, ?_, ?_, ?_⟩
  ·rw [show startW.1.sum = 1 by decide +kernel] at h3; exact h3
  ·rw [show startW.2.1.sum = 0 by decide +kernel] at h4; unfold foldW; omega
  ·rw [show startW.2.2 = 0 by decide +kernel] at h5; unfold foldW; omega
 intro ys
 induction ys with
 | nil => intro s h1 h2; exact ⟨h1, h2, Nat.le_refl _, Nat.le_refl _, Nat.le_refl _⟩
 | cons y ys ih =>
  intro s h1 h2
  rw [List.foldl_cons]
  obtain ⟨g1, g2, g3, g4, g5⟩ := ih (stepW s y) (by simp only [stepW]; rw [addAt_length]; exact h1) (by simp only [stepW]; split; rw [addAt_length]; exact h2; exact h2)
  have a1 : (stepW s y).1.sum ≤ s.1.sum + 1 := addAt_sum s.1 y.a.num.toNat
  have a2 : (stepW s y).2.1.sum ≤ s.2.1.sum + 1 := by
   have := addAt_sum s.2.1 y.b.num.toNat
   simp only [stepW]; split <;> omega
  have a3 : (stepW s y).2.2 ≤ s.2.2 + 1 := by simp only [stepW]; split <;> omega
  rw [List.length_cons]
  exact ⟨g1, g2, by omega, by omega, by omega⟩
def firstW (ys : List Sy) : List Nat := (foldW ys).1
def secondW (ys : List Sy) : List Nat := if (foldW ys).2.2 = 0 then (foldW ys).2.1.set 0 1 else (foldW ys).2.1
theorem splitT_yes {t : Tok} (h : t.right) : splitT t = (splitY t, true) := if_pos h
theorem splitT_no {t : Tok} (h : ¬ t.right) : splitT t = (Sy.nil, false) := if_neg h
end Go.Bn
end
