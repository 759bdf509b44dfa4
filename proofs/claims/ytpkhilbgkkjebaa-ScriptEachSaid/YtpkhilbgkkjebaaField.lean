/- The contracts of package field's functions on bytes, and of its reference's. -/
import Derived.Test.YtpkhilbgkkjebaaProg
import Derived.Test.YtpkhilbgkkjebaaOps4
import Derived.Test.YtpkhilbgkkjebaaPField
set_option linter.unusedVariables false
set_option linter.unusedSimpArgs false
set_option maxHeartbeats 4000000
set_option maxRecDepth 20000
namespace Go.Bn
open Go Proofs

theorem fwidth_spec (k : Int) (hp : Heap) : Ret Try.prog 42 [.int .i64 k] hp fun v hp' => v = .int .i64 (wid k : Nat) ∧ hp = hp' := by
  refine ret_of_X Try.func42 rfl rfl fun w0 hw0 => ?_
  simp only [argE, Nat.zero_add, Nat.reduceAdd]
  refine X_seq ?_
  refine X_reg ?_
  refine XR_a (op_assign rfl) rfl rfl ?_
  refine XR_nil ?_
  refine X_seq ?_
  refine X_reg ?_
  refine XR_a (op_move rfl) rfl rfl ?_
  refine XR_a (op_min2 rfl rfl) rfl rfl ?_
  refine XR_a (op_max2 rfl rfl) rfl rfl ?_
  refine XR_a (op_assign rfl) rfl rfl ?_
  refine XR_nil ?_
  refine X_ret (.cons (.tmp rfl) .nil) ?_
  refine ⟨?_, rfl⟩
  rw [wid_int]; rfl

theorem fwidth_ref (k : Int) (hp : Heap) : Ret Try.prog 41 [.int .i64 k] hp fun v hp' => v = .int .i64 (wid k : Nat) ∧ hp = hp' := by
  refine ret_of_X Try.func41 rfl rfl fun w0 hw0 => ?_
  simp only [argE, Nat.zero_add, Nat.reduceAdd]
  refine X_seq ?_
  refine X_reg ?_
  refine XR_a (op_assign rfl) rfl rfl ?_
  refine XR_nil ?_
  refine X_seq ?_
  refine X_seq ?_
  refine X_reg ?_
  refine XR_a (op_move rfl) rfl rfl ?_
  refine XR_a (op_lss rfl rfl) rfl rfl ?_
  refine XR_nil ?_
  refine X_if rfl (fun h => ?_) (fun h => ?_)
  · refine X_seq ?_
    refine X_reg ?_
    refine XR_a (op_assign rfl) rfl rfl ?_
    refine XR_nil ?_
    refine X_ret (.cons (.tmp rfl) .nil) ?_
    refine ⟨?_, rfl⟩
    rw [wid_int, show max 1 (min 4 k) = 1 by omega]; rfl
  · refine X_skip ?_
    refine X_seq ?_
    refine X_seq ?_
    refine X_reg ?_
    refine XR_a (op_move rfl) rfl rfl ?_
    refine XR_a (op_gtr rfl rfl) rfl rfl ?_
    refine XR_nil ?_
    refine X_if rfl (fun h => ?_) (fun h => ?_)
    · refine X_seq ?_
      refine X_reg ?_
      refine XR_a (op_assign rfl) rfl rfl ?_
      refine XR_nil ?_
      refine X_ret (.cons (.tmp rfl) .nil) ?_
      refine ⟨?_, rfl⟩
      rw [wid_int, show max 1 (min 4 k) = 4 by omega]; rfl
    · refine X_skip ?_
      refine X_seq ?_
      refine X_reg ?_
      refine XR_a (op_move rfl) rfl rfl ?_
      refine XR_a (op_assign rfl) rfl rfl ?_
      refine XR_nil ?_
      refine X_ret (.cons (.tmp rfl) .nil) ?_
      refine ⟨?_, rfl⟩
      rw [wid_int, show max 1 (min 4 k) = k by omega]; rfl

theorem fput_spec {B n : Nat} {k : Int} {v : Value} {l : List UInt8} {F : List Res} {h0 : Heap} (st : St B h0 h0 (row 5 1 v (l.map byteV) :: F)) (hn : n < 4294967296) (hl : l.length ≤ 1099511627776) :
    Ret Try.prog 34 [v, .int .u32 (n : Int), .int .i64 k] h0 fun v' h' => St B h0 h' (row 5 1 v' ((l ++ leB (wid k) n).map byteV) :: F) := by
  have hw := wid_le k
  refine ret_of_X Try.func34 rfl rfl fun w0 hw0 => ?_
  simp only [argE, Nat.zero_add, Nat.reduceAdd]
  refine X_seq ?_
  refine X_reg ?_
  refine XR_a (op_assign rfl) rfl rfl ?_
  refine XR_nil ?_
  refine X_seq ?_
  refine X_seq ?_
  refine X_reg ?_
  refine XR_a (op_move rfl) rfl rfl ?_
  refine XR_wa (opl_call (fwidth_spec _ _) rfl (by kernel_rfl)) rfl rfl rfl ?_
  rintro _ _ ⟨rfl, rfl⟩
  refine XR_a (op_move rfl) rfl rfl ?_
  refine XR_nil ?_
  refine X_block ?_
  refine X_loop (fun s => wid k - s.2.1) (fun s => [(0, s.1), (1, .int .u32 (s.2.2 : Int)), (8, .int .i64 (wid k : Nat)), (9, .int .i64 (s.2.1 : Int))])
    (fun (s : Value × Nat × Nat) hp => St B h0 hp (row 5 1 s.1 ((l ++ leB s.2.1 n).map byteV) :: F) ∧ s.2.1 ≤ wid k ∧ s.2.2 = n / 256 ^ s.2.1)
    (v, 0, n) (.cons rfl (.cons rfl (.cons rfl (.cons rfl (.nil _))))) ⟨by simpa [leB] using st, by simp, by simp⟩ ?_
  clear st
  rintro ⟨v, i, m⟩ hp ⟨st, hi, hm⟩
  simp only at st hi hm ⊢
  have hmn : m ≤ n := by rw [hm]; exact Nat.div_le_self _ _
  refine X_seq ?_
  refine X_reg ?_
  refine XR_a (op_lss rfl rfl) rfl rfl ?_
  refine XR_nil ?_
  refine X_seq ?_
  refine X_if rfl (fun h => ?_) (fun h => ?_)
  · refine X_skip ?_
    refine X_seq ?_
    refine X_block ?_
    refine X_seq ?_
    refine X_reg ?_
    refine XR_a (op_move rfl) rfl rfl ?_
    refine XR_a (op_move rfl) rfl rfl ?_
    refine XR_a (op_convU rfl rfl rfl) rfl rfl ?_
    refine XR_as (byteV (UInt8.ofNat m)) (by simp [byteV, IntKind.bits]) ?_
    refine XR_wa (opl_var1 rfl rfl rfl) rfl rfl rfl ?_
    rintro _ hp ⟨A, rfl, hx, hrd⟩
    have st := st.ext hx
    refine XR_wa (opl_append st 0 rfl (hrd) (rfl) (by simp [Value.one, byteV]) (by simp [leB_length]; omega) rfl rfl rfl rfl rfl rfl rfl) rfl rfl rfl fun v hp st => ?_
    simp only [List.set_cons_zero, List.set_cons_succ] at st
    refine XR_a (op_assign rfl) rfl rfl ?_
    refine XR_nil ?_
    refine X_reg ?_
    refine XR_a (op_move rfl) rfl rfl ?_
    first | refine XR_a (op_shrC 8 rfl rfl (by decide)) rfl rfl ?_ | refine XR_a (op_shrN 8 rfl rfl (by decide)) rfl rfl ?_
    refine XR_a (op_assign rfl) rfl rfl ?_
    refine XR_nil ?_
    refine X_blk ?_
    refine X_reg ?_
    first | refine XR_a (op_addN (n := 1) rfl rfl (by simp only [inK]; omega)) rfl rfl ?_ | refine XR_a (op_addI rfl rfl (by simp only [inK]; omega)) rfl rfl ?_ | refine XR_a (op_add rfl rfl) rfl rfl ?_
    refine XR_a (op_move rfl) rfl rfl ?_
    refine XR_nil ?_
    rw [← List.map_singleton (f := byteV), ← List.map_append, List.append_assoc, hm, ← leB_snoc] at st
    refine X_again (v, i + 1, m / 2 ^ 8) (.cons rfl (.cons rfl (.cons rfl (.cons rfl (.nil _))))) ⟨st, ?_, ?_⟩ ?_
    · simp only; omega
    · simp only; rw [hm, Nat.div_div_eq_div_mul, show (2 : Nat) ^ 8 = 256 by rfl, Nat.pow_succ]
    · simp only; omega
  · refine X_exit rfl ?_
    refine X_seq ?_
    refine X_reg ?_
    refine XR_a (op_move rfl) rfl rfl ?_
    refine XR_a (op_assign rfl) rfl rfl ?_
    refine XR_nil ?_
    refine X_ret (.cons (.tmp rfl) .nil) ?_
    have : i = wid k := by omega
    subst this
    exact st

theorem fput_ref {n : Nat} {k : Int} {h0 : Heap} (hn : n < 4294967296) :
    Ret Try.prog 30 [.int .u32 (n : Int), .int .i64 k] h0 fun v' h' => St h0.size h0 h' [row 5 1 v' ((leB (wid k) n).map byteV)] := by
  have hw := wid_le k
  have hw1 := wid_pos k
  refine ret_of_X Try.func30 rfl rfl fun w0 hw0 => ?_
  simp only [argE, Nat.zero_add, Nat.reduceAdd]
  refine X_seq ?_
  refine X_reg ?_
  refine XR_a (op_assign rfl) rfl rfl ?_
  refine XR_nil ?_
  refine X_seq ?_
  refine X_reg ?_
  refine XR_a (op_move rfl) rfl rfl ?_
  first | refine XR_a (op_remN (n := 256) rfl rfl (by omega)) rfl rfl ?_ | refine XR_a (op_remI rfl rfl (by omega) (by omega)) rfl rfl ?_ | refine XR_a (op_rem rfl rfl (by omega)) rfl rfl ?_
  refine XR_a (op_convU rfl rfl rfl) rfl rfl ?_
  refine XR_as (byteV (UInt8.ofNat n)) (by simp [byteV, IntKind.bits]) ?_
  refine XR_wa (opl_lit1 rfl rfl rfl) rfl rfl rfl ?_
  rintro v hp hnew
  have st := (St.start h0).new hnew
  refine XR_a (op_assign rfl) rfl rfl ?_
  refine XR_nil ?_
  refine X_seq ?_
  refine X_seq ?_
  refine X_reg ?_
  refine XR_a (op_assign rfl) rfl rfl ?_
  refine XR_nil ?_
  refine X_block ?_
  refine X_loop (fun s => wid k - s.2.1) (fun s => [(0, .int .u32 (s.2.2 : Int)), (1, .int .i64 k), (5, s.1), (6, .int .i64 (s.2.1 : Int))])
    (fun (s : Value × Nat × Nat) hp => St h0.size h0 hp [row 5 1 s.1 ((leB s.2.1 n).map byteV)] ∧ 1 ≤ s.2.1 ∧ s.2.1 ≤ wid k ∧ s.2.2 = n / 256 ^ (s.2.1 - 1))
    (v, 1, n) (.cons rfl (.cons rfl (.cons rfl (.cons rfl (.nil _))))) ⟨by simpa [leB] using st, by simp, hw1, by simp⟩ ?_
  clear st hnew
  rintro ⟨v, i, m⟩ hp ⟨st, hi1, hi, hm⟩
  simp only at st hi1 hi hm ⊢
  have hmn : m ≤ n := by rw [hm]; exact Nat.div_le_self _ _
  refine X_seq ?_
  refine X_seq ?_
  refine X_reg ?_
  refine XR_a (op_move rfl) rfl rfl ?_
  refine XR_a (op_move rfl) rfl rfl ?_
  refine XR_wa (opl_call (fwidth_ref _ _) rfl (by kernel_rfl)) rfl rfl rfl ?_
  rintro _ _ ⟨rfl, rfl⟩
  refine XR_a (op_lss rfl rfl) rfl rfl ?_
  refine XR_nil ?_
  refine X_if rfl (fun h => ?_) (fun h => ?_)
  · refine X_skip ?_
    refine X_seq ?_
    refine X_block ?_
    refine X_seq ?_
    refine X_reg ?_
    refine XR_a (op_move rfl) rfl rfl ?_
    first | refine XR_a (op_quoN (n := 256) rfl rfl (by omega) (by simp only [inK]; omega)) rfl rfl ?_ | refine XR_a (op_quoI rfl rfl (by omega) (by omega) (by simp only [inK]; omega)) rfl rfl ?_ | refine XR_a (op_quo rfl rfl (by omega)) rfl rfl ?_
    refine XR_a (op_assign rfl) rfl rfl ?_
    refine XR_nil ?_
    refine X_reg ?_
    refine XR_a (op_move rfl) rfl rfl ?_
    refine XR_a (op_move rfl) rfl rfl ?_
    first | refine XR_a (op_remN (n := 256) rfl rfl (by omega)) rfl rfl ?_ | refine XR_a (op_remI rfl rfl (by omega) (by omega)) rfl rfl ?_ | refine XR_a (op_rem rfl rfl (by omega)) rfl rfl ?_
    refine XR_a (op_convU rfl rfl rfl) rfl rfl ?_
    refine XR_as (byteV (UInt8.ofNat (m / 256))) (by simp [byteV, IntKind.bits]) ?_
    refine XR_wa (opl_var1 rfl rfl rfl) rfl rfl rfl ?_
    rintro _ hp ⟨A, rfl, hx, hrd⟩
    have st := st.ext hx
    refine XR_wa (opl_append st 0 rfl (hrd) (rfl) (by simp [Value.one, byteV]) (by simp [leB_length]; omega) rfl rfl rfl rfl rfl rfl rfl) rfl rfl rfl fun v hp st => ?_
    simp only [List.set_cons_zero, List.set_cons_succ] at st
    refine XR_a (op_assign rfl) rfl rfl ?_
    refine XR_nil ?_
    refine X_blk ?_
    refine X_reg ?_
    refine XR_a (op_move rfl) rfl rfl ?_
    first | refine XR_a (op_addN (n := 1) rfl rfl (by simp only [inK]; omega)) rfl rfl ?_ | refine XR_a (op_addI rfl rfl (by simp only [inK]; omega)) rfl rfl ?_ | refine XR_a (op_add rfl rfl) rfl rfl ?_
    refine XR_a (op_assign rfl) rfl rfl ?_
    refine XR_nil ?_
    rw [← List.map_singleton (f := byteV), ← List.map_append] at st
    have e : m / 256 = n / 256 ^ i := by rw [hm, Nat.div_div_eq_div_mul, ← Nat.pow_succ]; congr 2; omega
    rw [e, ← leB_snoc] at st
    refine X_again (v, i + 1, m / 256) (.cons rfl (.cons rfl (.cons rfl (.cons rfl (.nil _))))) ⟨st, ?_, ?_, ?_⟩ ?_
    · simp only; omega
    · simp only; omega
    · simp only [Nat.add_sub_cancel]; exact e
    · simp only; omega
  · refine X_exit rfl ?_
    refine X_seq ?_
    refine X_reg ?_
    refine XR_a (op_move rfl) rfl rfl ?_
    refine XR_a (op_assign rfl) rfl rfl ?_
    refine XR_nil ?_
    refine X_ret (.cons (.tmp rfl) .nil) ?_
    have : i = wid k := by omega
    subst this
    exact st

/-- Bytes that are read: the slice, and where they lie. -/
theorem fget_spec {at_ k : Int} {A : Option Addr} {n c : Nat} {l : List UInt8} {h0 : Heap} (hr : Rd h0 A (l.map byteV)) (hl : l.length = n) (hn : n ≤ 140737488355328) (ha : inK .i64 at_) :
    Ret Try.prog 44 [.slice A n c, .int .i64 at_, .int .i64 k] h0 fun v h' => v = retVal [.int .u32 (((getF l at_ k).getD 0 : Nat) : Int), .bool (getF l at_ k).isSome] ∧ h0 = h' := by
  have hw := wid_le k
  have hw1 := wid_pos k
  simp only [inK] at ha
  refine ret_of_X Try.func44 rfl rfl fun w0 hw0 => ?_
  simp only [argE, Nat.zero_add, Nat.reduceAdd]
  refine X_seq ?_
  refine X_reg ?_
  refine XR_a (op_assign rfl) rfl rfl ?_
  refine XR_a (op_assign rfl) rfl rfl ?_
  refine XR_nil ?_
  refine X_seq ?_
  refine X_reg ?_
  refine XR_a (op_move rfl) rfl rfl ?_
  refine XR_wa (opl_call (fwidth_spec _ _) rfl (by kernel_rfl)) rfl rfl rfl ?_
  rintro _ _ ⟨rfl, rfl⟩
  refine XR_a (op_assign rfl) rfl rfl ?_
  refine XR_nil ?_
  refine X_seq ?_
  refine X_seq ?_
  refine X_reg ?_
  refine XR_a (op_move rfl) rfl rfl ?_
  refine XR_a (op_lss rfl rfl) rfl rfl ?_
  refine XR_a (op_move rfl) rfl rfl ?_
  refine XR_if 15 rfl (fun h => ?_) (fun h => ?_)
  · refine XR_no rfl rfl ?_
    refine XR_no rfl rfl ?_
    refine XR_no rfl rfl ?_
    refine XR_no rfl rfl ?_
    refine XR_no rfl rfl ?_
    refine XR_no rfl rfl ?_
    refine XR_a (op_pick_t rfl rfl) rfl rfl ?_
    refine XR_nil ?_
    refine X_then rfl ?_
    refine X_seq ?_
    refine X_reg ?_
    refine XR_a (op_assign rfl) rfl rfl ?_
    refine XR_a (op_assign rfl) rfl rfl ?_
    refine XR_nil ?_
    refine X_ret (.cons (.tmp rfl) (.cons (.tmp rfl) .nil)) ?_
    have : getF l at_ k = none := by unfold getF; rw [if_neg (by omega)]
    rw [this]; exact ⟨rfl, rfl⟩
  · refine XR_a (op_move rfl) rfl rfl ?_
    refine XR_a (op_move rfl) rfl rfl ?_
    refine XR_a (op_len rfl rfl rfl) rfl rfl ?_
    refine XR_a (op_move rfl) rfl rfl ?_
    refine XR_a (op_subI rfl rfl (by simp only [inK]; omega)) rfl rfl ?_
    refine XR_a (op_gtr rfl rfl) rfl rfl ?_
    refine XR_a (op_pick_f rfl rfl) rfl rfl ?_
    refine XR_nil ?_
    refine X_if rfl (fun h => ?_) (fun h => ?_)
    · refine X_seq ?_
      refine X_reg ?_
      refine XR_a (op_assign rfl) rfl rfl ?_
      refine XR_a (op_assign rfl) rfl rfl ?_
      refine XR_nil ?_
      refine X_ret (.cons (.tmp rfl) (.cons (.tmp rfl) .nil)) ?_
      have : getF l at_ k = none := by unfold getF; rw [if_neg (by omega)]
      rw [this]; exact ⟨rfl, rfl⟩
    · obtain ⟨a, rfl⟩ : ∃ a : Nat, at_ = (a : Int) := ⟨at_.toNat, by omega⟩
      have hg : getF l (a : Int) k = some (leV ((l.drop a).take (wid k))) := by unfold getF; rw [if_pos (by omega)]; simp
      rw [hg]
      refine X_skip ?_
      refine X_seq ?_
      refine X_reg ?_
      refine XR_a (op_assign rfl) rfl rfl ?_
      refine XR_nil ?_
      refine X_seq ?_
      refine X_seq ?_
      refine X_reg ?_
      refine XR_a (op_move rfl) rfl rfl ?_
      refine XR_a (op_subI rfl rfl (by simp only [inK]; omega)) rfl rfl ?_
      refine XR_a (op_assign rfl) rfl rfl ?_
      refine XR_nil ?_
      refine X_block ?_
      obtain ⟨b, o, rfl, hc⟩ : ∃ b o, A = some ⟨b, o, none⟩ ∧ ∀ i u, (l.map byteV)[i]? = some u → cellH h0 ⟨b, o + i, none⟩ = some u := by
        rcases hr with h | h
        · exfalso
          have : l = [] := by simpa using h
          subst this; simp at hl; omega
        · exact h
      refine X_loop (fun s => s) (fun s => [(0, .slice (some ⟨b, o, none⟩) n c), (1, .int .i64 (a : Int)), (9, .int .u32 (leV ((l.drop (a + s)).take (wid k - s)) : Nat)), (10, .int .i64 ((s : Int) - 1))])
        (fun (s : Nat) hp => h0 = hp ∧ s ≤ wid k)
        (wid k) (.cons rfl (.cons rfl (.cons (by simp [leV]; rfl) (.cons rfl (.nil _))))) ⟨rfl, Nat.le_refl _⟩ ?_
      rintro i hp ⟨rfl, hi⟩
      refine X_seq ?_
      refine X_seq ?_
      refine X_reg ?_
      refine XR_a (op_move rfl) rfl rfl ?_
      refine XR_a (op_geq rfl rfl) rfl rfl ?_
      refine XR_nil ?_
      refine X_if rfl (fun h => ?_) (fun h => ?_)
      · obtain ⟨i, rfl⟩ : ∃ j, i = j + 1 := ⟨i - 1, by omega⟩
        have hlt : a + i < l.length := by omega
        have hstep : (l.drop (a + i)).take (wid k - i) = l[a + i] :: (l.drop (a + (i + 1))).take (wid k - (i + 1)) := by
          rw [List.drop_eq_getElem_cons hlt, show wid k - i = (wid k - (i + 1)) + 1 by omega, List.take_succ_cons]; rfl
        have hcell := hc (a + i) (byteV l[a + i]) (by simp [hlt])
        have hv := leV_lt ((l.drop (a + (i + 1))).take (wid k - (i + 1)))
        have hv2 : leV ((l.drop (a + (i + 1))).take (wid k - (i + 1))) < 16777216 := by
          refine Nat.lt_of_lt_of_le hv (Nat.le_trans (Nat.pow_le_pow_right (by omega) (?_ : _ ≤ 3)) (by decide))
          rw [List.length_take]; omega
        have hb := (l[a + i]).toNat_lt
        rw [show (((i + 1 : Nat) : Int) - 1) = (i : Int) by omega]
        refine X_skip ?_
        refine X_seq ?_
        refine X_block ?_
        refine X_reg ?_
        refine XR_a (op_move rfl) rfl rfl ?_
        first | refine XR_a (op_shlC 8 rfl rfl (by decide) (by simp only [inK]; omega)) rfl rfl ?_ | refine XR_a (op_shlI 8 rfl rfl (by decide) (by simp only [inK]; omega)) rfl rfl ?_ | refine XR_a (op_shlN 8 rfl rfl (by decide)) rfl rfl ?_
        refine XR_a (op_move rfl) rfl rfl ?_
        refine XR_a (op_move rfl) rfl rfl ?_
        refine XR_a (op_move rfl) rfl rfl ?_
        first | refine XR_a (op_addN rfl rfl (by simp only [inK]; omega)) rfl rfl ?_ | refine XR_a (op_addI rfl rfl (by simp only [inK]; omega)) rfl rfl ?_ | refine XR_a (op_add rfl rfl) rfl rfl ?_
        refine XR_a (op_index1 (i := a + i) rfl rfl rfl (by omega)) rfl rfl ?_
        refine XR_a (op_ld (hcell) rfl rfl rfl) rfl rfl ?_
        refine XR_a (op_convI rfl rfl (by simp only [inK]; omega)) rfl rfl ?_
        refine XR_a (op_orN rfl rfl rfl (by simp only [IntKind.bits]; omega) (by simp only [IntKind.bits]; omega)) rfl rfl ?_
        rw [show leV ((l.drop (a + (i + 1))).take (wid k - (i + 1))) * 2 ^ 8 ||| l[a + i].toNat = leV ((l.drop (a + i)).take (wid k - i)) by
          rw [hstep, leV, Nat.mul_comm, ← Nat.two_pow_add_eq_or_of_lt hb]; omega]
        refine XR_a (op_assign rfl) rfl rfl ?_
        refine XR_nil ?_
        refine X_blk ?_
        refine X_reg ?_
        refine XR_a (op_move rfl) rfl rfl ?_
        refine XR_a (op_subI rfl rfl (by simp only [inK]; omega)) rfl rfl ?_
        refine XR_a (op_assign rfl) rfl rfl ?_
        refine XR_nil ?_
        exact X_again i (.cons rfl (.cons rfl (.cons rfl (.cons rfl (.nil _))))) ⟨rfl, by omega⟩ (by omega)
      · refine X_exit rfl ?_
        refine X_seq ?_
        refine X_reg ?_
        refine XR_a (op_move rfl) rfl rfl ?_
        refine XR_a (op_assign rfl) rfl rfl ?_
        refine XR_a (op_assign rfl) rfl rfl ?_
        refine XR_nil ?_
        refine X_ret (.cons (.tmp rfl) (.cons (.tmp rfl) .nil)) ?_
        have : i = 0 := by omega
        subst this
        exact ⟨rfl, rfl⟩

theorem fget_ref {at_ k : Int} {A : Option Addr} {n c : Nat} {l : List UInt8} {h0 : Heap} (hr : Rd h0 A (l.map byteV)) (hl : l.length = n) (hn : n ≤ 140737488355328) (ha : inK .i64 at_) :
    Ret Try.prog 40 [.slice A n c, .int .i64 at_, .int .i64 k] h0 fun v h' => v = retVal [.int .u32 (((getF l at_ k).getD 0 : Nat) : Int), .bool (getF l at_ k).isSome] ∧ h0 = h' := by
  have hw := wid_le k
  have hw1 := wid_pos k
  simp only [inK] at ha
  refine ret_of_X Try.func40 rfl rfl fun w0 hw0 => ?_
  simp only [argE, Nat.zero_add, Nat.reduceAdd]
  refine X_seq ?_
  refine X_reg ?_
  refine XR_a (op_assign rfl) rfl rfl ?_
  refine XR_a (op_assign rfl) rfl rfl ?_
  refine XR_nil ?_
  refine X_seq ?_
  refine X_reg ?_
  refine XR_a (op_move rfl) rfl rfl ?_
  refine XR_wa (opl_call (fwidth_ref _ _) rfl (by kernel_rfl)) rfl rfl rfl ?_
  rintro _ _ ⟨rfl, rfl⟩
  refine XR_a (op_assign rfl) rfl rfl ?_
  refine XR_nil ?_
  refine X_seq ?_
  refine X_seq ?_
  refine X_reg ?_
  refine XR_a (op_move rfl) rfl rfl ?_
  refine XR_a (op_lss rfl rfl) rfl rfl ?_
  refine XR_a (op_move rfl) rfl rfl ?_
  refine XR_if 16 rfl (fun h => ?_) (fun h => ?_)
  · refine XR_no rfl rfl ?_
    refine XR_no rfl rfl ?_
    refine XR_no rfl rfl ?_
    refine XR_no rfl rfl ?_
    refine XR_a (op_pick_t rfl rfl) rfl rfl ?_
    refine XR_a (op_move rfl) rfl rfl ?_
    refine XR_no rfl rfl ?_
    refine XR_no rfl rfl ?_
    refine XR_no rfl rfl ?_
    refine XR_no rfl rfl ?_
    refine XR_no rfl rfl ?_
    refine XR_no rfl rfl ?_
    refine XR_a (op_pick_t rfl rfl) rfl rfl ?_
    refine XR_nil ?_
    refine X_then rfl ?_
    refine X_seq ?_
    refine X_reg ?_
    refine XR_a (op_assign rfl) rfl rfl ?_
    refine XR_a (op_assign rfl) rfl rfl ?_
    refine XR_nil ?_
    refine X_ret (.cons (.tmp rfl) (.cons (.tmp rfl) .nil)) ?_
    have : getF l at_ k = none := by unfold getF; rw [if_neg (by omega)]
    rw [this]; exact ⟨rfl, rfl⟩
  · refine XR_a (op_move rfl) rfl rfl ?_
    refine XR_a (op_move rfl) rfl rfl ?_
    refine XR_a (op_len rfl rfl rfl) rfl rfl ?_
    refine XR_a (op_geq rfl rfl) rfl rfl ?_
    refine XR_a (op_pick_f rfl rfl) rfl rfl ?_
    refine XR_a (op_move rfl) rfl rfl ?_
    refine XR_if 22 rfl (fun h => ?_) (fun h => ?_)
    · refine XR_no rfl rfl ?_
      refine XR_no rfl rfl ?_
      refine XR_no rfl rfl ?_
      refine XR_no rfl rfl ?_
      refine XR_no rfl rfl ?_
      refine XR_no rfl rfl ?_
      refine XR_a (op_pick_t rfl rfl) rfl rfl ?_
      refine XR_nil ?_
      refine X_then rfl ?_
      refine X_seq ?_
      refine X_reg ?_
      refine XR_a (op_assign rfl) rfl rfl ?_
      refine XR_a (op_assign rfl) rfl rfl ?_
      refine XR_nil ?_
      refine X_ret (.cons (.tmp rfl) (.cons (.tmp rfl) .nil)) ?_
      have : getF l at_ k = none := by unfold getF; rw [if_neg (by omega)]
      rw [this]; exact ⟨rfl, rfl⟩
    · refine XR_a (op_move rfl) rfl rfl ?_
      refine XR_a (op_len rfl rfl rfl) rfl rfl ?_
      refine XR_a (op_move rfl) rfl rfl ?_
      refine XR_a (op_subI rfl rfl (by simp only [inK]; omega)) rfl rfl ?_
      refine XR_a (op_move rfl) rfl rfl ?_
      refine XR_a (op_lss rfl rfl) rfl rfl ?_
      refine XR_a (op_pick_f rfl rfl) rfl rfl ?_
      refine XR_nil ?_
      refine X_if rfl (fun h => ?_) (fun h => ?_)
      · refine X_seq ?_
        refine X_reg ?_
        refine XR_a (op_assign rfl) rfl rfl ?_
        refine XR_a (op_assign rfl) rfl rfl ?_
        refine XR_nil ?_
        refine X_ret (.cons (.tmp rfl) (.cons (.tmp rfl) .nil)) ?_
        have : getF l at_ k = none := by unfold getF; rw [if_neg (by omega)]
        rw [this]; exact ⟨rfl, rfl⟩
      · obtain ⟨a, rfl⟩ : ∃ a : Nat, at_ = (a : Int) := ⟨at_.toNat, by omega⟩
        have hg : getF l (a : Int) k = some (leV ((l.drop a).take (wid k))) := by unfold getF; rw [if_pos (by omega)]; simp
        rw [hg]
        refine X_skip ?_
        refine X_seq ?_
        refine X_reg ?_
        refine XR_a (op_assign rfl) rfl rfl ?_
        refine XR_a (op_assign rfl) rfl rfl ?_
        refine XR_nil ?_
        refine X_seq ?_
        refine X_seq ?_
        refine X_reg ?_
        refine XR_a (op_assign rfl) rfl rfl ?_
        refine XR_nil ?_
        refine X_block ?_
        obtain ⟨b, o, rfl, hc⟩ : ∃ b o, A = some ⟨b, o, none⟩ ∧ ∀ i u, (l.map byteV)[i]? = some u → cellH h0 ⟨b, o + i, none⟩ = some u := by
          rcases hr with h | h
          · exfalso
            have : l = [] := by simpa using h
            subst this; simp at hl; omega
          · exact h
        refine X_loop (fun s => wid k - s) (fun s => [(0, .slice (some ⟨b, o, none⟩) n c), (1, .int .i64 (a : Int)), (8, .int .i64 (wid k : Nat)), (9, .int .u32 (leV ((l.drop a).take s) : Nat)), (10, .int .u32 ((256 ^ s % 4294967296 : Nat) : Int)), (11, .int .i64 (s : Int))])
          (fun (s : Nat) hp => h0 = hp ∧ s ≤ wid k)
          0 (.cons rfl (.cons rfl (.cons rfl (.cons (by simp [leV]; rfl) (.cons rfl (.cons rfl (.nil _))))))) ⟨rfl, Nat.zero_le _⟩ ?_
        rintro i hp ⟨rfl, hi⟩
        refine X_seq ?_
        refine X_seq ?_
        refine X_reg ?_
        refine XR_a (op_move rfl) rfl rfl ?_
        refine XR_a (op_move rfl) rfl rfl ?_
        refine XR_a (op_lss rfl rfl) rfl rfl ?_
        refine XR_nil ?_
        refine X_if rfl (fun h => ?_) (fun h => ?_)
        · have hlt : a + i < l.length := by omega
          have hi' : i < wid k := by omega
          have hstep : (l.drop a).take (i + 1) = (l.drop a).take i ++ [l[a + i]] := by
            rw [List.take_succ_eq_append_getElem (by simp; omega)]; simp
          have hlen : ((l.drop a).take i).length = i := by rw [List.length_take, List.length_drop]; omega
          have hcell := hc (a + i) (byteV l[a + i]) (by simp [hlt])
          have h256 : 256 ^ i ≤ 16777216 := Nat.le_trans (Nat.pow_le_pow_right (by omega) (show i ≤ 3 by omega)) (by decide)
          have hmod : 256 ^ i % 4294967296 = 256 ^ i := Nat.mod_eq_of_lt (by omega)
          have hv := leV_lt ((l.drop a).take i)
          have hv2 := leV_lt ((l.drop a).take (i + 1))
          rw [hlen] at hv
          have hs : leV ((l.drop a).take (i + 1)) = leV ((l.drop a).take i) + 256 ^ i * l[a + i].toNat := by rw [hstep, leV_snoc, hlen]
          have hlen2 : ((l.drop a).take (i + 1)).length = i + 1 := by rw [List.length_take, List.length_drop]; omega
          rw [hlen2] at hv2
          have h4 : 256 ^ (i + 1) ≤ 4294967296 := Nat.le_trans (Nat.pow_le_pow_right (by omega) (show i + 1 ≤ 4 by omega)) (by decide)
          have hb := (l[a + i]).toNat_lt
          rw [hmod]
          refine X_skip ?_
          refine X_seq ?_
          refine X_block ?_
          refine X_seq ?_
          refine X_reg ?_
          refine XR_a (op_move rfl) rfl rfl ?_
          refine XR_a (op_move rfl) rfl rfl ?_
          refine XR_a (op_move rfl) rfl rfl ?_
          refine XR_a (op_move rfl) rfl rfl ?_
          refine XR_a (op_move rfl) rfl rfl ?_
          first | refine XR_a (op_addN rfl rfl (by simp only [inK]; omega)) rfl rfl ?_ | refine XR_a (op_addI rfl rfl (by simp only [inK]; omega)) rfl rfl ?_ | refine XR_a (op_add rfl rfl) rfl rfl ?_
          refine XR_a (op_index1 (i := a + i) rfl rfl rfl (by omega)) rfl rfl ?_
          refine XR_a (op_ld (hcell) rfl rfl rfl) rfl rfl ?_
          refine XR_a (op_convI rfl rfl (by simp only [inK]; omega)) rfl rfl ?_
          refine XR_a (op_mulN rfl rfl (by simp only [inK]; omega)) rfl rfl ?_
          refine XR_a (op_addN rfl rfl (by simp only [inK]; omega)) rfl rfl ?_
          rw [← hs]
          refine XR_a (op_assign rfl) rfl rfl ?_
          refine XR_nil ?_
          refine X_reg ?_
          refine XR_a (op_move rfl) rfl rfl ?_
          refine XR_a (op_mul rfl rfl) rfl rfl ?_
          refine XR_as (.int .u32 ((256 ^ (i + 1) % 4294967296 : Nat) : Int)) (by
            have e : (((256 ^ i : Nat) : Int) * 256) = ((256 ^ (i + 1) : Nat) : Int) := by rw [Nat.pow_succ, Int.natCast_mul]; rfl
            rw [e, wrap_u32]) ?_
          refine XR_a (op_assign rfl) rfl rfl ?_
          refine XR_nil ?_
          refine X_blk ?_
          refine X_reg ?_
          refine XR_a (op_move rfl) rfl rfl ?_
          first | refine XR_a (op_addN (n := 1) rfl rfl (by simp only [inK]; omega)) rfl rfl ?_ | refine XR_a (op_addI rfl rfl (by simp only [inK]; omega)) rfl rfl ?_ | refine XR_a (op_add rfl rfl) rfl rfl ?_
          refine XR_a (op_assign rfl) rfl rfl ?_
          refine XR_nil ?_
          exact X_again (i + 1) (.cons rfl (.cons rfl (.cons rfl (.cons rfl (.cons rfl (.cons rfl (.nil _))))))) ⟨rfl, by omega⟩ (by omega)
        · refine X_exit rfl ?_
          refine X_seq ?_
          refine X_reg ?_
          refine XR_a (op_move rfl) rfl rfl ?_
          refine XR_a (op_assign rfl) rfl rfl ?_
          refine XR_a (op_assign rfl) rfl rfl ?_
          refine XR_nil ?_
          refine X_ret (.cons (.tmp rfl) (.cons (.tmp rfl) .nil)) ?_
          have : i = wid k := by omega
          subst this
          exact ⟨rfl, rfl⟩
end Go.Bn
