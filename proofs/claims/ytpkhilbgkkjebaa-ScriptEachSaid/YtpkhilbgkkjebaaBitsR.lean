/- The contracts of bits' reader, and of its reference. -/
import Derived.Test.YtpkhilbgkkjebaaBits
import Derived.Test.YtpkhilbgkkjebaaPBits2
import Derived.Test.YtpkhilbgkkjebaaOps5
set_option linter.unusedVariables false
set_option linter.unusedSimpArgs false
set_option maxHeartbeats 4000000
set_option maxRecDepth 20000
namespace Go.Bn
open Go Proofs

/-- A reader's block: its bytes, and its place. -/
@[reducible] def rdG (p : Nat) (A : Option Addr) (m c at_ : Nat) : Res := pt p 86 [.slice A m c, .int .i64 (at_ : Int)]

theorem rnew_spec {m c : Nat} {A : Option Addr} {h0 : Heap} : Ret Try.prog 46 [.slice A m c] h0 fun v h' => ∃ p, v = .pointer (some ⟨p, 0, none⟩) ∧ St h0.size h0 h' [rdG p A m c 0] := by
  refine ret_of_X Try.func46 rfl rfl fun w0 hw0 => ?_
  simp only [argE, Nat.zero_add, Nat.reduceAdd]
  have st := St.start h0
  refine X_seq ?_
  refine X_reg ?_
  refine XR_a (op_assign rfl) rfl rfl ?_
  refine XR_nil ?_
  refine X_seq ?_
  refine X_reg ?_
  refine XR_a (op_move rfl) rfl rfl ?_
  refine XR_a (op_build (ps := [(0, .slice A m c)]) (cs := #[.slice A m c, .int .i64 0]) rfl rfl) rfl rfl ?_
  refine XR_wa (opl_bx rfl rfl) rfl rfl rfl ?_
  rintro _ hp ⟨p, rfl, hnew⟩
  have st := st.new hnew
  refine XR_a (op_assign rfl) rfl rfl ?_
  refine XR_nil ?_
  refine X_ret (.cons (.tmp rfl) .nil) ?_
  exact ⟨_, rfl, st⟩

theorem rleft_spec {p m c a : Nat} {A : Option Addr} {h0 : Heap} (c0 : cellH h0 ⟨p, 0, none⟩ = some (.slice A m c)) (c1 : cellH h0 ⟨p, 1, none⟩ = some (.int .i64 (a : Int))) (hm : m ≤ 1099511627776) (ha : a ≤ 8 * m) :
    Ret Try.prog 53 [.pointer (some ⟨p, 0, none⟩)] h0 fun v h' => v = .int .i64 (8 * m - a : Nat) ∧ h0 = h' := by
  refine ret_of_X Try.func53 rfl rfl fun w0 hw0 => ?_
  simp only [argE, Nat.zero_add, Nat.reduceAdd]
  refine X_seq ?_
  refine X_reg ?_
  refine XR_a (op_assign rfl) rfl rfl ?_
  refine XR_nil ?_
  refine X_seq ?_
  refine X_seq ?_
  refine X_reg ?_
  refine XR_a (op_move rfl) rfl rfl ?_
  refine XR_a (op_ptr_nil rfl rfl rfl) rfl rfl ?_
  refine XR_nil ?_
  refine X_else rfl ?_
  refine X_skip ?_
  refine X_seq ?_
  refine X_draw byKind (by kernel_rfl) (by kernel_rfl) ?_
  refine XR_a (op_move rfl) rfl rfl ?_
  refine XR_a (op_nilCheck rfl) rfl rfl ?_
  first | refine XR_a (op_field0 rfl rfl) rfl rfl ?_ | refine XR_a (op_fieldn rfl rfl) rfl rfl ?_
  refine XR_a (op_ld (by first | assumption | exact st.cell 0 rfl rfl | exact st.cell 1 rfl rfl | exact st.cell 2 rfl rfl | exact st.cell 3 rfl rfl) rfl rfl rfl) rfl rfl ?_
  refine XR_a (op_len rfl rfl rfl) rfl rfl ?_
  refine XR_a (op_mulN (m := 8) rfl rfl (by simp only [inK]; omega)) rfl rfl ?_
  refine XR_a (op_move rfl) rfl rfl ?_
  refine XR_a (op_nilCheck rfl) rfl rfl ?_
  first | refine XR_a (op_field0 rfl rfl) rfl rfl ?_ | refine XR_a (op_fieldn rfl rfl) rfl rfl ?_
  refine XR_a (op_ld (by first | assumption | exact st.cell 0 rfl rfl | exact st.cell 1 rfl rfl | exact st.cell 2 rfl rfl | exact st.cell 3 rfl rfl) rfl rfl rfl) rfl rfl ?_
  first | refine XR_a (op_subN rfl rfl (by omega) (by simp only [inK]; omega)) rfl rfl ?_ | refine XR_a (op_subI rfl rfl (by simp only [inK]; omega)) rfl rfl ?_ | refine XR_a (op_sub rfl rfl) rfl rfl ?_
  refine XR_a (op_assign rfl) rfl rfl ?_
  refine XR_nil ?_
  refine X_ret (.cons (.tmp rfl) .nil) ?_
  exact ⟨rfl, rfl⟩

theorem rleft_none (h0 : Heap) : Ret Try.prog 53 [.pointer none] h0 fun v h' => v = .int .i64 0 ∧ h0 = h' := by
  refine ret_of_X Try.func53 rfl rfl fun w0 hw0 => ?_
  simp only [argE, Nat.zero_add, Nat.reduceAdd]
  refine X_seq ?_
  refine X_reg ?_
  refine XR_a (op_assign rfl) rfl rfl ?_
  refine XR_nil ?_
  refine X_seq ?_
  refine X_seq ?_
  refine X_reg ?_
  refine XR_a (op_move rfl) rfl rfl ?_
  refine XR_a (op_ptr_nil rfl rfl rfl) rfl rfl ?_
  refine XR_nil ?_
  refine X_then rfl ?_
  refine X_seq ?_
  refine X_reg ?_
  refine XR_a (op_assign rfl) rfl rfl ?_
  refine XR_nil ?_
  refine X_ret (.cons (.tmp rfl) .nil) ?_
  exact ⟨rfl, rfl⟩

theorem rpeek_spec {p m c a : Nat} {k : Int} {A : Option Addr} {l : List UInt8} {h0 : Heap} (c0 : cellH h0 ⟨p, 0, none⟩ = some (.slice A m c)) (c1 : cellH h0 ⟨p, 1, none⟩ = some (.int .i64 (a : Int)))
    (hr : Rd h0 A (l.map byteV)) (hl : l.length = m) (hm : m ≤ 1099511627776) (ha : a ≤ 8 * m) :
    Ret Try.prog 48 [.pointer (some ⟨p, 0, none⟩), .int .i64 k] h0 fun v h' => v = .int .u32 (numB (bitsB l) a (wd 32 k) : Nat) ∧ h0 = h' := by
  have hwd := wd_le 32 k
  have hfin := peekV l a (wd 32 k) hwd
  have hnlt := numB_lt (bitsB l) a (wd 32 k)
  refine ret_of_X Try.func48 rfl rfl fun w0 hw0 => ?_
  simp only [argE, Nat.zero_add, Nat.reduceAdd]
  refine X_seq ?_
  refine X_reg ?_
  refine XR_a (op_assign rfl) rfl rfl ?_
  refine XR_nil ?_
  refine X_seq ?_
  refine X_seq ?_
  refine X_reg ?_
  refine XR_a (op_move rfl) rfl rfl ?_
  refine XR_a (op_ptr_nil rfl rfl rfl) rfl rfl ?_
  refine XR_nil ?_
  refine X_else rfl ?_
  refine X_skip ?_
  refine X_seq ?_
  refine X_reg ?_
  refine XR_a (op_move rfl) rfl rfl ?_
  refine XR_wa (opl_call (bwidth_spec k _) rfl (by kernel_rfl)) rfl rfl rfl ?_
  rintro _ _ ⟨rfl, rfl⟩
  generalize wd 32 k = kw at *
  have hk2 : 2 ^ kw ≤ 4294967296 := Nat.le_trans (Nat.pow_le_pow_right (by omega) hwd) (by decide)
  have hk1 : 1 ≤ 2 ^ kw := Nat.two_pow_pos kw
  refine XR_a (op_assign rfl) rfl rfl ?_
  refine XR_nil ?_
  refine X_seq ?_
  refine X_reg ?_
  refine XR_a (op_assign rfl) rfl rfl ?_
  refine XR_nil ?_
  refine X_seq ?_
  refine X_seq ?_
  refine X_draw (butAt [(4, .pure)]) (by kernel_rfl) (by kernel_rfl) ?_
  refine XR_a (op_move rfl) rfl rfl ?_
  refine XR_a (op_nilCheck rfl) rfl rfl ?_
  first | refine XR_a (op_field0 rfl rfl) rfl rfl ?_ | refine XR_a (op_fieldn rfl rfl) rfl rfl ?_
  refine XR_a (op_ld (by first | assumption | exact st.cell 0 rfl rfl | exact st.cell 1 rfl rfl | exact st.cell 2 rfl rfl | exact st.cell 3 rfl rfl) rfl rfl rfl) rfl rfl ?_
  first | refine XR_a (op_quoN (n := 8) rfl rfl (by omega) (by simp only [inK]; omega)) rfl rfl ?_ | refine XR_a (op_quoI rfl rfl (by omega) (by omega) (by simp only [inK]; omega)) rfl rfl ?_ | refine XR_a (op_quo rfl rfl (by omega)) rfl rfl ?_
  refine XR_a (op_assign rfl) rfl rfl ?_
  refine XR_a (op_assign rfl) rfl rfl ?_
  refine XR_nil ?_
  refine X_block ?_
  refine X_loop (fun s => 5 - s) (fun s => [(0, .pointer (some ⟨p, 0, none⟩)), (5, .int .i64 (kw : Int)), (6, .int .u64 (valB (bitsB ((l.drop (a / 8)).take s)) : Nat)), (7, .int .i64 (s : Int)), (8, .int .i64 (a / 8 : Nat))])
    (fun (s : Nat) hp => h0 = hp ∧ s ≤ 5)
    0 (.cons rfl (.cons rfl (.cons (by simp [bitsB, valB]; rfl) (.cons rfl (.cons rfl (.nil _)))))) ⟨rfl, by omega⟩ ?_
  rintro i hp ⟨rfl, hi⟩
  refine X_seq ?_
  refine X_seq ?_
  refine X_reg ?_
  refine XR_a (op_move rfl) rfl rfl ?_
  refine XR_a (op_lss rfl rfl) rfl rfl ?_
  refine XR_a (op_move rfl) rfl rfl ?_
  refine XR_if 20 rfl (fun h => ?_) (fun h => ?_)
  · refine XR_a (op_move rfl) rfl rfl ?_
    refine XR_a (op_move rfl) rfl rfl ?_
    first | refine XR_a (op_addN rfl rfl (by simp only [inK]; omega)) rfl rfl ?_ | refine XR_a (op_addI rfl rfl (by simp only [inK]; omega)) rfl rfl ?_ | refine XR_a (op_add rfl rfl) rfl rfl ?_
    refine XR_a (op_move rfl) rfl rfl ?_
    refine XR_a (op_nilCheck rfl) rfl rfl ?_
    first | refine XR_a (op_field0 rfl rfl) rfl rfl ?_ | refine XR_a (op_fieldn rfl rfl) rfl rfl ?_
    refine XR_a (op_ld (by first | assumption | exact st.cell 0 rfl rfl | exact st.cell 1 rfl rfl | exact st.cell 2 rfl rfl | exact st.cell 3 rfl rfl) rfl rfl rfl) rfl rfl ?_
    refine XR_a (op_len rfl rfl rfl) rfl rfl ?_
    refine XR_a (op_lss rfl rfl) rfl rfl ?_
    refine XR_a (op_pick_t rfl rfl) rfl rfl ?_
    refine XR_nil ?_
    refine X_if rfl (fun h => ?_) (fun h => ?_)
    · have hlt : a / 8 + i < l.length := by omega
      obtain ⟨b, o, rfl, hc⟩ := hr.at_ (by rw [List.length_map]; omega)
      have hcell := hc (a / 8 + i) (byteV l[a / 8 + i]) (by simp [hlt])
      have hstep : (l.drop (a / 8)).take (i + 1) = (l.drop (a / 8)).take i ++ [l[a / 8 + i]] := by
        rw [List.take_succ_eq_append_getElem (by simp; omega)]; simp
      have hlen : ((l.drop (a / 8)).take i).length = i := by rw [List.length_take, List.length_drop]; omega
      have hv := valB_bytes_lt ((l.drop (a / 8)).take i)
      have hs := valB_snoc8 ((l.drop (a / 8)).take i) l[a / 8 + i]
      rw [← hstep, hlen] at hs
      rw [hlen] at hv
      have hb := (l[a / 8 + i]).toNat_lt
      have h32 : 2 ^ (8 * i) ≤ 4294967296 := Nat.le_trans (Nat.pow_le_pow_right (by omega) (show 8 * i ≤ 32 by omega)) (by decide)
      generalize valB (bitsB ((l.drop (a / 8)).take i)) = q at hv hs
      generalize l[a / 8 + i] = y at *
      have hprod : y.toNat * 2 ^ (8 * i) ≤ 255 * 4294967296 := Nat.mul_le_mul (by omega) h32
      refine X_skip ?_
      refine X_seq ?_
      refine X_block ?_
      refine X_reg ?_
      refine XR_a (op_move rfl) rfl rfl ?_
      refine XR_a (op_move rfl) rfl rfl ?_
      refine XR_a (op_nilCheck rfl) rfl rfl ?_
      first | refine XR_a (op_field0 rfl rfl) rfl rfl ?_ | refine XR_a (op_fieldn rfl rfl) rfl rfl ?_
      refine XR_a (op_ld (by first | assumption | exact st.cell 0 rfl rfl | exact st.cell 1 rfl rfl | exact st.cell 2 rfl rfl | exact st.cell 3 rfl rfl) rfl rfl rfl) rfl rfl ?_
      refine XR_a (op_move rfl) rfl rfl ?_
      refine XR_a (op_move rfl) rfl rfl ?_
      first | refine XR_a (op_addN rfl rfl (by simp only [inK]; omega)) rfl rfl ?_ | refine XR_a (op_addI rfl rfl (by simp only [inK]; omega)) rfl rfl ?_ | refine XR_a (op_add rfl rfl) rfl rfl ?_
      first | refine XR_a (op_index1 rfl rfl rfl (by omega)) rfl rfl ?_ | refine XR_a (op_index rfl rfl rfl (by omega)) rfl rfl ?_
      refine XR_a (op_ld (hcell) rfl rfl rfl) rfl rfl ?_
      first | refine XR_a (op_convI rfl rfl (by simp only [inK]; omega)) rfl rfl ?_ | refine XR_a (op_convU rfl rfl rfl) rfl rfl ?_ | refine XR_a (op_conv rfl rfl) rfl rfl ?_
      refine XR_a (op_move rfl) rfl rfl ?_
      refine XR_a (op_mulN (m := 8) rfl rfl (by simp only [inK]; omega)) rfl rfl ?_
      first | refine XR_a (op_shlC _ rfl rfl (by simp only [IntKind.bits]; omega) (by simp only [inK]; omega)) rfl rfl ?_ | refine XR_a (op_shlI _ rfl rfl (by simp only [IntKind.bits]; omega) (by simp only [inK]; omega)) rfl rfl ?_ | refine XR_a (op_shlN _ rfl rfl (by simp only [IntKind.bits]; omega)) rfl rfl ?_ | refine XR_a (op_shl rfl rfl (by omega)) rfl rfl ?_
      first | refine XR_a (op_orN rfl rfl rfl (by simp only [IntKind.bits]; omega) (by simp only [IntKind.bits]; omega)) rfl rfl ?_ | refine XR_a (op_or rfl rfl) rfl rfl ?_
      rw [or_put hv, ← hs]
      refine XR_a (op_assign rfl) rfl rfl ?_
      refine XR_nil ?_
      refine X_blk ?_
      refine X_reg ?_
      refine XR_a (op_move rfl) rfl rfl ?_
      first | refine XR_a (op_addN (n := 1) rfl rfl (by simp only [inK]; omega)) rfl rfl ?_ | refine XR_a (op_addI rfl rfl (by simp only [inK]; omega)) rfl rfl ?_ | refine XR_a (op_add rfl rfl) rfl rfl ?_
      refine XR_a (op_assign rfl) rfl rfl ?_
      refine XR_nil ?_
      exact X_again (i + 1) (.cons rfl (.cons rfl (.cons rfl (.cons rfl (.cons rfl (.nil _)))))) ⟨rfl, by omega⟩ (by omega)
    · refine X_exit rfl ?_
      refine X_seq ?_
      have hq : valB (bitsB ((l.drop (a / 8)).take i)) = valB (bitsB ((l.drop (a / 8)).take 5)) := by
        first
          | (rw [show i = 5 by omega])
          | (rw [List.take_of_length_le (i := i) (by rw [List.length_drop]; omega), List.take_of_length_le (i := 5) (by rw [List.length_drop]; omega)])
      have hv := valB_bytes_lt ((l.drop (a / 8)).take 5)
      have hv40 : 2 ^ (8 * ((l.drop (a / 8)).take 5).length) ≤ 1099511627776 := Nat.le_trans (Nat.pow_le_pow_right (by omega) (show _ ≤ 40 by rw [List.length_take]; omega)) (by decide)
      rw [hq]
      generalize valB (bitsB ((l.drop (a / 8)).take 5)) = q at *
      have hsh : q / 2 ^ (a % 8) ≤ q := Nat.div_le_self _ _
      refine X_draw byKind (by kernel_rfl) (by kernel_rfl) ?_
      refine XR_a (op_move rfl) rfl rfl ?_
      refine XR_a (op_move rfl) rfl rfl ?_
      refine XR_a (op_nilCheck rfl) rfl rfl ?_
      first | refine XR_a (op_field0 rfl rfl) rfl rfl ?_ | refine XR_a (op_fieldn rfl rfl) rfl rfl ?_
      refine XR_a (op_ld (by first | assumption | exact st.cell 0 rfl rfl | exact st.cell 1 rfl rfl | exact st.cell 2 rfl rfl | exact st.cell 3 rfl rfl) rfl rfl rfl) rfl rfl ?_
      first | refine XR_a (op_remN (n := 8) rfl rfl (by omega)) rfl rfl ?_ | refine XR_a (op_remI rfl rfl (by omega) (by omega)) rfl rfl ?_ | refine XR_a (op_rem rfl rfl (by omega)) rfl rfl ?_
      first | refine XR_a (op_shrC _ rfl rfl (by simp only [IntKind.bits]; omega)) rfl rfl ?_ | refine XR_a (op_shrA _ rfl rfl (by simp only [IntKind.bits]; omega)) rfl rfl ?_ | refine XR_a (op_shrN _ rfl rfl (by simp only [IntKind.bits]; omega)) rfl rfl ?_ | refine XR_a (op_shr rfl rfl (by omega)) rfl rfl ?_
      refine XR_a (op_move rfl) rfl rfl ?_
      refine XR_a (op_shlC (m := 1) kw rfl rfl (by simp only [IntKind.bits]; omega) (by simp only [inK]; omega)) rfl rfl ?_
      rw [Nat.one_mul]
      refine XR_a (op_subN (n := 1) rfl rfl hk1 (by simp only [inK]; omega)) rfl rfl ?_
      first | refine XR_a (op_andN rfl rfl rfl (by simp only [IntKind.bits]; omega) (by simp only [IntKind.bits]; omega)) rfl rfl ?_ | refine XR_a (op_and rfl rfl) rfl rfl ?_
      rw [Nat.and_two_pow_sub_one_eq_mod, hfin]
      first | refine XR_a (op_convI rfl rfl (by simp only [inK]; omega)) rfl rfl ?_ | refine XR_a (op_convU rfl rfl rfl) rfl rfl ?_ | refine XR_a (op_conv rfl rfl) rfl rfl ?_
      refine XR_a (op_assign rfl) rfl rfl ?_
      refine XR_nil ?_
      refine X_ret (.cons (.tmp rfl) .nil) ?_
      exact ⟨rfl, rfl⟩
  · refine XR_no rfl rfl ?_
    refine XR_no rfl rfl ?_
    refine XR_no rfl rfl ?_
    refine XR_no rfl rfl ?_
    refine XR_no rfl rfl ?_
    refine XR_no rfl rfl ?_
    refine XR_no rfl rfl ?_
    refine XR_no rfl rfl ?_
    refine XR_no rfl rfl ?_
    refine XR_a (op_pick_f rfl rfl) rfl rfl ?_
    refine XR_nil ?_
    refine X_else rfl ?_
    refine X_exit rfl ?_
    refine X_seq ?_
    have hq : valB (bitsB ((l.drop (a / 8)).take i)) = valB (bitsB ((l.drop (a / 8)).take 5)) := by
      first
        | (rw [show i = 5 by omega])
        | (rw [List.take_of_length_le (i := i) (by rw [List.length_drop]; omega), List.take_of_length_le (i := 5) (by rw [List.length_drop]; omega)])
    have hv := valB_bytes_lt ((l.drop (a / 8)).take 5)
    have hv40 : 2 ^ (8 * ((l.drop (a / 8)).take 5).length) ≤ 1099511627776 := Nat.le_trans (Nat.pow_le_pow_right (by omega) (show _ ≤ 40 by rw [List.length_take]; omega)) (by decide)
    rw [hq]
    generalize valB (bitsB ((l.drop (a / 8)).take 5)) = q at *
    have hsh : q / 2 ^ (a % 8) ≤ q := Nat.div_le_self _ _
    refine X_draw byKind (by kernel_rfl) (by kernel_rfl) ?_
    refine XR_a (op_move rfl) rfl rfl ?_
    refine XR_a (op_move rfl) rfl rfl ?_
    refine XR_a (op_nilCheck rfl) rfl rfl ?_
    first | refine XR_a (op_field0 rfl rfl) rfl rfl ?_ | refine XR_a (op_fieldn rfl rfl) rfl rfl ?_
    refine XR_a (op_ld (by first | assumption | exact st.cell 0 rfl rfl | exact st.cell 1 rfl rfl | exact st.cell 2 rfl rfl | exact st.cell 3 rfl rfl) rfl rfl rfl) rfl rfl ?_
    first | refine XR_a (op_remN (n := 8) rfl rfl (by omega)) rfl rfl ?_ | refine XR_a (op_remI rfl rfl (by omega) (by omega)) rfl rfl ?_ | refine XR_a (op_rem rfl rfl (by omega)) rfl rfl ?_
    first | refine XR_a (op_shrC _ rfl rfl (by simp only [IntKind.bits]; omega)) rfl rfl ?_ | refine XR_a (op_shrA _ rfl rfl (by simp only [IntKind.bits]; omega)) rfl rfl ?_ | refine XR_a (op_shrN _ rfl rfl (by simp only [IntKind.bits]; omega)) rfl rfl ?_ | refine XR_a (op_shr rfl rfl (by omega)) rfl rfl ?_
    refine XR_a (op_move rfl) rfl rfl ?_
    refine XR_a (op_shlC (m := 1) kw rfl rfl (by simp only [IntKind.bits]; omega) (by simp only [inK]; omega)) rfl rfl ?_
    rw [Nat.one_mul]
    refine XR_a (op_subN (n := 1) rfl rfl hk1 (by simp only [inK]; omega)) rfl rfl ?_
    first | refine XR_a (op_andN rfl rfl rfl (by simp only [IntKind.bits]; omega) (by simp only [IntKind.bits]; omega)) rfl rfl ?_ | refine XR_a (op_and rfl rfl) rfl rfl ?_
    rw [Nat.and_two_pow_sub_one_eq_mod, hfin]
    first | refine XR_a (op_convI rfl rfl (by simp only [inK]; omega)) rfl rfl ?_ | refine XR_a (op_convU rfl rfl rfl) rfl rfl ?_ | refine XR_a (op_conv rfl rfl) rfl rfl ?_
    refine XR_a (op_assign rfl) rfl rfl ?_
    refine XR_nil ?_
    refine X_ret (.cons (.tmp rfl) .nil) ?_
    exact ⟨rfl, rfl⟩

theorem rpeek_none (v : Value) (h0 : Heap) : Ret Try.prog 48 [.pointer none, v] h0 fun v h' => v = .int .u32 0 ∧ h0 = h' := by
  refine ret_of_X Try.func48 rfl rfl fun w0 hw0 => ?_
  simp only [argE, Nat.zero_add, Nat.reduceAdd]
  refine X_seq ?_
  refine X_reg ?_
  refine XR_a (op_assign rfl) rfl rfl ?_
  refine XR_nil ?_
  refine X_seq ?_
  refine X_seq ?_
  refine X_reg ?_
  refine XR_a (op_move rfl) rfl rfl ?_
  refine XR_a (op_ptr_nil rfl rfl rfl) rfl rfl ?_
  refine XR_nil ?_
  refine X_then rfl ?_
  refine X_seq ?_
  refine X_reg ?_
  refine XR_a (op_assign rfl) rfl rfl ?_
  refine XR_nil ?_
  refine X_ret (.cons (.tmp rfl) .nil) ?_
  exact ⟨rfl, rfl⟩

theorem rskip_spec {B p m c a : Nat} {k : Int} {A : Option Addr} {F : List Res} {h0 : Heap} (st : St B h0 h0 (rdG p A m c a :: F)) (hm : m ≤ 1099511627776) (ha : a ≤ 8 * m) :
    Ret Try.prog 51 [.pointer (some ⟨p, 0, none⟩), .int .i64 k] h0 fun v h' => v = .bool (decide (wd 32 k ≤ 8 * m - a)) ∧ St B h0 h' (rdG p A m c (if wd 32 k ≤ 8 * m - a then a + wd 32 k else a) :: F) := by
  have hwd := wd_le 32 k
  refine ret_of_X Try.func51 rfl rfl fun w0 hw0 => ?_
  simp only [argE, Nat.zero_add, Nat.reduceAdd]
  refine X_seq ?_
  refine X_reg ?_
  refine XR_a (op_assign rfl) rfl rfl ?_
  refine XR_nil ?_
  refine X_seq ?_
  refine X_reg ?_
  refine XR_a (op_move rfl) rfl rfl ?_
  refine XR_wa (opl_call (bwidth_spec k _) rfl (by kernel_rfl)) rfl rfl rfl ?_
  rintro _ _ ⟨rfl, rfl⟩
  generalize wd 32 k = kw at *
  refine XR_a (op_assign rfl) rfl rfl ?_
  refine XR_nil ?_
  refine X_seq ?_
  refine X_seq ?_
  refine X_reg ?_
  refine XR_a (op_move rfl) rfl rfl ?_
  refine XR_a (op_ptr_nil rfl rfl rfl) rfl rfl ?_
  refine XR_a (op_move rfl) rfl rfl ?_
  refine XR_a (op_move rfl) rfl rfl ?_
  refine XR_a (op_move rfl) rfl rfl ?_
  refine XR_wa (opl_call (rleft_spec (st.cell 0 rfl rfl) (st.cell 0 rfl rfl) hm ha) rfl (by kernel_rfl)) rfl rfl rfl ?_
  rintro _ _ ⟨rfl, rfl⟩
  refine XR_a (op_gtr rfl rfl) rfl rfl ?_
  refine XR_a (op_pick_f rfl rfl) rfl rfl ?_
  refine XR_nil ?_
  refine X_if rfl (fun h => ?_) (fun h => ?_)
  · refine X_seq ?_
    refine X_reg ?_
    refine XR_a (op_assign rfl) rfl rfl ?_
    refine XR_nil ?_
    refine X_ret (.cons (.tmp rfl) .nil) ?_
    rw [if_neg (by omega), decide_eq_false (by omega)]
    exact ⟨rfl, st⟩
  · refine X_skip ?_
    refine X_seq ?_
    refine X_reg ?_
    refine XR_a (op_move rfl) rfl rfl ?_
    refine XR_a (op_nilCheck rfl) rfl rfl ?_
    first | refine XR_a (op_field0 rfl rfl) rfl rfl ?_ | refine XR_a (op_fieldn rfl rfl) rfl rfl ?_
    refine XR_a (op_ld (by first | assumption | exact st.cell 0 rfl rfl | exact st.cell 1 rfl rfl | exact st.cell 2 rfl rfl | exact st.cell 3 rfl rfl) rfl rfl rfl) rfl rfl ?_
    refine XR_a (op_move rfl) rfl rfl ?_
    first | refine XR_a (op_addN rfl rfl (by simp only [inK]; omega)) rfl rfl ?_ | refine XR_a (op_addI rfl rfl (by simp only [inK]; omega)) rfl rfl ?_ | refine XR_a (op_add rfl rfl) rfl rfl ?_
    refine XR_a (op_nilCheck rfl) rfl rfl ?_
    first | refine XR_a (op_field0 rfl rfl) rfl rfl ?_ | refine XR_a (op_fieldn rfl rfl) rfl rfl ?_
    refine XR_wn (opl_store_pt st 0 rfl rfl rfl rfl rfl (rfl)) rfl rfl fun _ hp st => ?_
    simp only [List.set_cons_zero, List.set_cons_succ] at st
    refine XR_nil ?_
    refine X_seq ?_
    refine X_reg ?_
    refine XR_a (op_assign rfl) rfl rfl ?_
    refine XR_nil ?_
    refine X_ret (.cons (.tmp rfl) .nil) ?_
    rw [if_pos (by omega), decide_eq_true (by omega)]
    exact ⟨rfl, st⟩

theorem rskip_none (k : Int) (h0 : Heap) : Ret Try.prog 51 [.pointer none, .int .i64 k] h0 fun v h' => v = .bool false ∧ h0 = h' := by
  refine ret_of_X Try.func51 rfl rfl fun w0 hw0 => ?_
  simp only [argE, Nat.zero_add, Nat.reduceAdd]
  refine X_seq ?_
  refine X_reg ?_
  refine XR_a (op_assign rfl) rfl rfl ?_
  refine XR_nil ?_
  refine X_seq ?_
  refine X_reg ?_
  refine XR_a (op_move rfl) rfl rfl ?_
  refine XR_wa (opl_call (bwidth_spec k _) rfl (by kernel_rfl)) rfl rfl rfl ?_
  rintro _ _ ⟨rfl, rfl⟩
  refine XR_a (op_assign rfl) rfl rfl ?_
  refine XR_nil ?_
  refine X_seq ?_
  refine X_seq ?_
  refine X_reg ?_
  refine XR_a (op_move rfl) rfl rfl ?_
  refine XR_a (op_ptr_nil rfl rfl rfl) rfl rfl ?_
  refine XR_a (op_move rfl) rfl rfl ?_
  refine XR_no rfl rfl ?_
  refine XR_no rfl rfl ?_
  refine XR_no rfl rfl ?_
  refine XR_no rfl rfl ?_
  refine XR_a (op_pick_t rfl rfl) rfl rfl ?_
  refine XR_nil ?_
  refine X_then rfl ?_
  refine X_seq ?_
  refine X_reg ?_
  refine XR_a (op_assign rfl) rfl rfl ?_
  refine XR_nil ?_
  refine X_ret (.cons (.tmp rfl) .nil) ?_
  exact ⟨rfl, rfl⟩

theorem rtake_spec {B p m c a : Nat} {k : Int} {A : Option Addr} {l : List UInt8} {F : List Res} {h0 : Heap} (st : St B h0 h0 (rdG p A m c a :: F)) (hr : Rd h0 A (l.map byteV)) (hl : l.length = m) (hm : m ≤ 1099511627776) (ha : a ≤ 8 * m) :
    Ret Try.prog 47 [.pointer (some ⟨p, 0, none⟩), .int .i64 k] h0 fun v h' =>
      v = retVal [.int .u32 ((if wd 32 k ≤ 8 * m - a then numB (bitsB l) a (wd 32 k) else 0 : Nat) : Int), .bool (decide (wd 32 k ≤ 8 * m - a))] ∧ St B h0 h' (rdG p A m c (if wd 32 k ≤ 8 * m - a then a + wd 32 k else a) :: F) := by
  refine ret_of_X Try.func47 rfl rfl fun w0 hw0 => ?_
  simp only [argE, Nat.zero_add, Nat.reduceAdd]
  refine X_seq ?_
  refine X_reg ?_
  refine XR_a (op_assign rfl) rfl rfl ?_
  refine XR_a (op_assign rfl) rfl rfl ?_
  refine XR_nil ?_
  refine X_seq ?_
  refine X_reg ?_
  refine XR_a (op_move rfl) rfl rfl ?_
  refine XR_a (op_move rfl) rfl rfl ?_
  refine XR_wa (opl_call (rpeek_spec (st.cell 0 rfl rfl) (st.cell 0 rfl rfl) hr hl hm ha) rfl (by kernel_rfl)) rfl rfl rfl ?_
  rintro _ _ ⟨rfl, rfl⟩
  refine XR_a (op_assign rfl) rfl rfl ?_
  refine XR_nil ?_
  refine X_seq ?_
  refine X_seq ?_
  refine X_reg ?_
  refine XR_a (op_move rfl) rfl rfl ?_
  refine XR_a (op_move rfl) rfl rfl ?_
  refine XR_wa (opl_call (rskip_spec st hm ha) rfl (by kernel_rfl)) rfl rfl rfl ?_
  rintro _ hp ⟨rfl, st⟩
  first | refine XR_a (op_notd rfl) rfl rfl ?_ | refine XR_a (op_not rfl) rfl rfl ?_
  refine XR_nil ?_
  refine X_if rfl (fun h => ?_) (fun h => ?_)
  · refine X_seq ?_
    refine X_reg ?_
    refine XR_a (op_assign rfl) rfl rfl ?_
    refine XR_a (op_assign rfl) rfl rfl ?_
    refine XR_nil ?_
    refine X_ret (.cons (.tmp rfl) (.cons (.tmp rfl) .nil)) ?_
    have hn : ¬ wd 32 k ≤ 8 * m - a := by simpa using h
    rw [if_neg hn] at st
    rw [if_neg hn, if_neg hn, decide_eq_false hn]
    exact ⟨rfl, st⟩
  · refine X_skip ?_
    refine X_seq ?_
    refine X_reg ?_
    refine XR_a (op_move rfl) rfl rfl ?_
    refine XR_a (op_assign rfl) rfl rfl ?_
    refine XR_a (op_assign rfl) rfl rfl ?_
    refine XR_nil ?_
    refine X_ret (.cons (.tmp rfl) (.cons (.tmp rfl) .nil)) ?_
    have hn : wd 32 k ≤ 8 * m - a := by simpa using h
    rw [if_pos hn] at st
    rw [if_pos hn, if_pos hn, decide_eq_true hn]
    exact ⟨rfl, st⟩

theorem rtake_none (k : Int) (h0 : Heap) : Ret Try.prog 47 [.pointer none, .int .i64 k] h0 fun v h' => v = retVal [.int .u32 0, .bool false] ∧ h0 = h' := by
  refine ret_of_X Try.func47 rfl rfl fun w0 hw0 => ?_
  simp only [argE, Nat.zero_add, Nat.reduceAdd]
  refine X_seq ?_
  refine X_reg ?_
  refine XR_a (op_assign rfl) rfl rfl ?_
  refine XR_a (op_assign rfl) rfl rfl ?_
  refine XR_nil ?_
  refine X_seq ?_
  refine X_reg ?_
  refine XR_a (op_move rfl) rfl rfl ?_
  refine XR_a (op_move rfl) rfl rfl ?_
  refine XR_wa (opl_call (rpeek_none _ _) rfl (by kernel_rfl)) rfl rfl rfl ?_
  rintro _ _ ⟨rfl, rfl⟩
  refine XR_a (op_assign rfl) rfl rfl ?_
  refine XR_nil ?_
  refine X_seq ?_
  refine X_seq ?_
  refine X_reg ?_
  refine XR_a (op_move rfl) rfl rfl ?_
  refine XR_a (op_move rfl) rfl rfl ?_
  refine XR_wa (opl_call (rskip_none k _) rfl (by kernel_rfl)) rfl rfl rfl ?_
  rintro _ _ ⟨rfl, rfl⟩
  first | refine XR_a (op_notd rfl) rfl rfl ?_ | refine XR_a (op_not rfl) rfl rfl ?_
  refine XR_nil ?_
  refine X_then rfl ?_
  refine X_seq ?_
  refine X_reg ?_
  refine XR_a (op_assign rfl) rfl rfl ?_
  refine XR_a (op_assign rfl) rfl rfl ?_
  refine XR_nil ?_
  refine X_ret (.cons (.tmp rfl) (.cons (.tmp rfl) .nil)) ?_
  exact ⟨rfl, rfl⟩
end Go.Bn
