/- The contract of bindleref31.Keep. -/
import Derived.Test.YtpkhilbgkkjebaaScript5
set_option linter.unusedVariables false
set_option linter.unusedSimpArgs false
set_option maxHeartbeats 4000000
set_option maxRecDepth 20000
namespace Go.Bn
open Go Proofs

/-- The first i entries as bytes. -/
def packN (ks : List Bool) (i nb : Nat) : List UInt8 := (List.range nb).map fun j => UInt8.ofNat (numB ks (8 * j) (min 8 (i - 8 * j)))
theorem packN_len (ks : List Bool) (i nb : Nat) : (packN ks i nb).length = nb := by simp [packN]
theorem packN_zero (ks : List Bool) (nb : Nat) : packN ks 0 nb = List.replicate nb 0 := by
  refine List.ext_getElem (by simp [packN]) fun j h1 h2 => ?_
  simp only [packN, List.getElem_map, List.getElem_range, List.getElem_replicate]
  rw [Nat.zero_sub, Nat.min_eq_right (by omega), numB_zero]; rfl
theorem packN_full (ks : List Bool) : packN ks ks.length ((ks.length + 7) / 8) = pack ks := by
  refine List.ext_getElem (by rw [packN_len, pack_length]) fun j h1 h2 => ?_
  rw [packN_len] at h1
  rw [pack_get]
  simp only [packN, List.getElem_map, List.getElem_range]
  congr 1
  rcases Nat.lt_or_ge (ks.length - 8 * j) 8 with h | h
  · rw [Nat.min_eq_right (by omega)]
    exact (numB_cut ks (8 * j) (ks.length - 8 * j) 8 (by omega) (by omega)).symm
  · rw [Nat.min_eq_left h]
theorem packN_get {ks : List Bool} {i nb j : Nat} (h : j < nb) : (packN ks i nb)[j]? = some (UInt8.ofNat (numB ks (8 * j) (min 8 (i - 8 * j)))) := by
  simp [packN, h]
theorem packN_succ {ks : List Bool} {i nb : Nat} (hi : i < ks.length) (hnb : i / 8 < nb) :
    (packN ks i nb).set (i / 8) (UInt8.ofNat (numB ks (8 * (i / 8)) (i % 8) + 2 ^ (i % 8) * (ks[i]).toNat)) = packN ks (i + 1) nb := by
  refine List.ext_getElem (by simp [packN]) fun j h1 h2 => ?_
  rw [packN_len] at h2
  rw [List.getElem_set]
  simp only [packN, List.getElem_map, List.getElem_range]
  by_cases h : i / 8 = j
  · subst h
    rw [if_pos rfl]
    congr 1
    rw [show min 8 (i + 1 - 8 * (i / 8)) = i % 8 + 1 by omega, numB_succ ks _ _ (by omega)]
    congr 3
    simp only [show 8 * (i / 8) + i % 8 = i by omega]
  · rw [if_neg h]
    congr 2
    omega
theorem map_set_byte (l : List UInt8) (i : Nat) (x : UInt8) : (l.map byteV).set i (byteV x) = (l.set i x).map byteV := by rw [List.map_set]

theorem keep31_ref {n c : Nat} {A : Option Addr} {ks : List Bool} {h0 : Heap} (hr : Rd h0 A (ks.map Value.bool)) (hl : ks.length = n) (hn : n ≤ 1048576) :
    Ret Try.prog 31 [.slice A n c] h0 fun v h' => St h0.size h0 h' [row 5 1 v ((pack ks).map byteV)] := by
  refine ret_of_X Try.func31 rfl rfl fun w0 hw0 => ?_
  simp only [argE, Nat.zero_add, Nat.reduceAdd]
  have st := St.start h0
  refine X_seq ?_
  refine X_reg ?_
  refine XR_a (op_assign rfl) rfl rfl ?_
  refine XR_nil ?_
  refine X_seq ?_
  refine X_reg ?_
  refine XR_a (op_move rfl) rfl rfl ?_
  refine XR_a (op_len rfl rfl rfl) rfl rfl ?_
  first | refine XR_a (op_addN (n := 7) rfl rfl (by simp only [inK]; omega)) rfl rfl ?_ | refine XR_a (op_addI rfl rfl (by simp only [inK]; omega)) rfl rfl ?_ | refine XR_a (op_add rfl rfl) rfl rfl ?_
  first | refine XR_a (op_quoN (n := 8) rfl rfl (by omega) (by simp only [inK]; omega)) rfl rfl ?_ | refine XR_a (op_quoI rfl rfl (by omega) (by omega) (by simp only [inK]; omega)) rfl rfl ?_ | refine XR_a (op_quo rfl rfl (by omega)) rfl rfl ?_
  refine XR_wa (opl_mk (n := (n + 7) / 8) (by omega) rfl rfl rfl) rfl rfl rfl ?_
  rintro v hp hnew
  replace st := st.new hnew
  rw [show List.replicate ((n + 7) / 8) (Value.int .u8 0) = (packN ks 0 ((n + 7) / 8)).map byteV by rw [packN_zero, List.map_replicate]; rfl] at st
  refine XR_a (op_assign rfl) rfl rfl ?_
  refine XR_nil ?_
  refine X_seq ?_
  refine X_reg ?_
  refine XR_a (op_assign rfl) rfl rfl ?_
  refine XR_nil ?_
  refine X_seq ?_
  refine X_seq ?_
  refine X_reg ?_
  refine XR_a (op_assign rfl) rfl rfl ?_
  refine XR_nil ?_
  refine X_block ?_
  refine X_loop (fun s => n - s.1) (fun s => [(0, .slice A n c), (3, v), (4, nV s.2), (5, nV s.1)])
    (fun (s : Nat × Nat) hp => s.1 ≤ n ∧ s.2 ≤ 256 ∧ (s.1 % 8 ≠ 0 → s.2 = 2 ^ (s.1 % 8)) ∧ St h0.size h0 hp [row 5 1 v ((packN ks s.1 ((n + 7) / 8)).map byteV)])
    (0, 1) (.cons rfl (.cons rfl (.cons rfl (.cons rfl (.nil _))))) ⟨Nat.zero_le _, by simp only; omega, fun h => absurd rfl h, st⟩ ?_
  clear st
  rintro ⟨i, p⟩ hp ⟨hi, hp2, hpp, st⟩
  simp only at hi hp2 hpp st ⊢
  refine X_seq ?_
  refine X_seq ?_
  refine X_reg ?_
  refine XR_a (op_move rfl) rfl rfl ?_
  refine XR_a (op_move rfl) rfl rfl ?_
  refine XR_a (op_len rfl rfl rfl) rfl rfl ?_
  refine XR_a (op_lss rfl rfl) rfl rfl ?_
  refine XR_nil ?_
  refine X_if rfl (fun h => ?_) (fun h => ?_)
  · have hin : i < n := by omega
    obtain ⟨g, o, rfl, hc⟩ := hr.at_ (by rw [List.length_map]; omega)
    obtain ⟨g2, n2, c2, rfl, hl2, _⟩ := st.row0 0 rfl (by rw [List.length_map, packN_len]; omega)
    rw [List.length_map, packN_len, Nat.mul_one] at hl2
    have hb8 : 2 ^ (i % 8) ≤ 2 ^ 7 := Nat.pow_le_pow_right (by omega) (by omega)
    have hlt := numB_lt ks (8 * (i / 8)) (i % 8)
    have hik : i < ks.length := by omega
    have hbit := hc i (.bool ks[i]) (by simp [hik])
    have hnb : i / 8 < (n + 7) / 8 := by omega
    obtain ⟨_, _, he2, hc2⟩ := (st.rdS 0 rfl).2.at_ (by rw [List.length_map, packN_len]; omega)
    cases he2
    obtain ⟨x, hx⟩ : ∃ x, numB ks (8 * (i / 8)) (i % 8) = x := ⟨_, rfl⟩
    rw [hx] at hlt
    have hbv : ∀ y, y < 256 → byteV (UInt8.ofNat y) = .int .u8 (y : Int) := fun y hy => by unfold byteV; congr 1; rw [UInt8.toNat_ofNat']; omega
    have hcur := hc2 (i / 8) (.int .u8 (x : Int)) (by rw [List.getElem?_map, packN_get hnb, show min 8 (i - 8 * (i / 8)) = i % 8 by omega, hx, ← hbv x (by omega)]; rfl)
    have hs := packN_succ (nb := (n + 7) / 8) hik hnb
    rw [hx] at hs
    obtain ⟨q, hq⟩ : ∃ q, 2 ^ (i % 8) = q := ⟨_, rfl⟩
    rw [hq] at hlt hb8 hs hpp
    have hq0 : i % 8 = 0 → q = 1 := fun h => by rw [← hq, h]
    have hqn : (i + 1) % 8 ≠ 0 → 2 ^ ((i + 1) % 8) = 2 * q := fun h => by rw [show (i + 1) % 8 = i % 8 + 1 by omega, Nat.pow_succ, hq, Nat.mul_comm]
    refine X_skip ?_
    refine X_seq ?_
    refine X_block ?_
    refine X_seq ?_
    refine X_seq ?_
    refine X_reg ?_
    refine XR_a (op_move rfl) rfl rfl ?_
    first | refine XR_a (op_remN (n := 8) rfl rfl (by omega)) rfl rfl ?_ | refine XR_a (op_remI rfl rfl (by omega) (by omega)) rfl rfl ?_ | refine XR_a (op_rem rfl rfl (by omega)) rfl rfl ?_
    refine XR_a (op_eql rfl rfl) rfl rfl ?_
    refine XR_nil ?_
    refine X_if rfl (fun h => ?_) (fun h => ?_)
    · obtain rfl := hq0 (by omega)
      refine X_reg ?_
      refine XR_a (op_assign rfl) rfl rfl ?_
      refine XR_nil ?_
      refine X_seq ?_
      refine X_seq ?_
      refine X_reg ?_
      refine XR_a (op_move rfl) rfl rfl ?_
      refine XR_a (op_move rfl) rfl rfl ?_
      first | refine XR_a (op_index1 rfl rfl rfl (by omega)) rfl rfl ?_ | refine XR_a (op_index rfl rfl rfl (by omega)) rfl rfl ?_
      refine XR_a (op_ld (cellH_ext (a := ⟨g, o + i, none⟩) st.low hbit) rfl rfl rfl) rfl rfl ?_
      refine XR_nil ?_
      refine X_cond (b := ks[i]) rfl (fun h => ?_) (fun h => ?_)
      · rw [h] at hs
        refine X_reg ?_
        refine XR_a (op_move rfl) rfl rfl ?_
        refine XR_a (op_move rfl) rfl rfl ?_
        first | refine XR_a (op_quoN (n := 8) rfl rfl (by omega) (by simp only [inK]; omega)) rfl rfl ?_ | refine XR_a (op_quoI rfl rfl (by omega) (by omega) (by simp only [inK]; omega)) rfl rfl ?_ | refine XR_a (op_quo rfl rfl (by omega)) rfl rfl ?_
        refine XR_a (op_move rfl) rfl rfl ?_
        refine XR_a (op_move rfl) rfl rfl ?_
        first | refine XR_a (op_quoN (n := 8) rfl rfl (by omega) (by simp only [inK]; omega)) rfl rfl ?_ | refine XR_a (op_quoI rfl rfl (by omega) (by omega) (by simp only [inK]; omega)) rfl rfl ?_ | refine XR_a (op_quo rfl rfl (by omega)) rfl rfl ?_
        first | refine XR_a (op_index1 rfl rfl rfl (by omega)) rfl rfl ?_ | refine XR_a (op_index rfl rfl rfl (by omega)) rfl rfl ?_
        refine XR_a (op_ld (hcur) rfl rfl rfl) rfl rfl ?_
        refine XR_a (op_convI (k' := .i64) rfl rfl (by simp only [inK]; omega)) rfl rfl ?_
        refine XR_a (op_move rfl) rfl rfl ?_
        first | refine XR_a (op_addN rfl rfl (by simp only [inK]; omega)) rfl rfl ?_ | refine XR_a (op_addI rfl rfl (by simp only [inK]; omega)) rfl rfl ?_ | refine XR_a (op_add rfl rfl) rfl rfl ?_
        refine XR_a (op_convI (k' := .u8) rfl rfl (by simp only [inK]; omega)) rfl rfl ?_
        refine XR_as (byteV (UInt8.ofNat (x + 1 * true.toNat))) (by rw [hbv _ (by simp only [Bool.toNat_true]; omega)]; rfl) ?_
        first | refine XR_a (op_index1 rfl rfl rfl (by omega)) rfl rfl ?_ | refine XR_a (op_index rfl rfl rfl (by omega)) rfl rfl ?_
        refine XR_wn (opl_store_row (v := byteV (UInt8.ofNat (x + 1 * true.toNat))) st 0 rfl rfl rfl (by rw [List.length_map, packN_len]; exact hnb) rfl rfl) rfl rfl fun _ hp st => ?_
        simp only [List.set_cons_zero, List.set_cons_succ] at st
        rw [map_set_byte, hs] at st
        refine XR_nil ?_
        refine X_reg ?_
        refine XR_a (op_move rfl) rfl rfl ?_
        first | refine XR_a (op_mulN (m := 2) rfl rfl (by simp only [inK]; omega)) rfl rfl ?_ | refine XR_a (op_mulI rfl rfl (by simp only [inK]; omega)) rfl rfl ?_ | refine XR_a (op_mul rfl rfl) rfl rfl ?_
        refine XR_a (op_assign rfl) rfl rfl ?_
        refine XR_nil ?_
        refine X_blk ?_
        refine X_reg ?_
        refine XR_a (op_move rfl) rfl rfl ?_
        first | refine XR_a (op_addN (n := 1) rfl rfl (by simp only [inK]; omega)) rfl rfl ?_ | refine XR_a (op_addI rfl rfl (by simp only [inK]; omega)) rfl rfl ?_ | refine XR_a (op_add rfl rfl) rfl rfl ?_
        refine XR_a (op_assign rfl) rfl rfl ?_
        refine XR_nil ?_
        exact X_again (i + 1, _) (.cons rfl (.cons rfl (.cons rfl (.cons rfl (.nil _))))) ⟨by simp only; omega, by simp only; omega, fun h9 => by simp only; rw [hqn h9], st⟩ (by simp only; omega)
      · rw [h] at hs
        refine X_skip ?_
        refine X_reg ?_
        refine XR_a (op_move rfl) rfl rfl ?_
        first | refine XR_a (op_mulN (m := 2) rfl rfl (by simp only [inK]; omega)) rfl rfl ?_ | refine XR_a (op_mulI rfl rfl (by simp only [inK]; omega)) rfl rfl ?_ | refine XR_a (op_mul rfl rfl) rfl rfl ?_
        refine XR_a (op_assign rfl) rfl rfl ?_
        refine XR_nil ?_
        refine X_blk ?_
        refine X_reg ?_
        refine XR_a (op_move rfl) rfl rfl ?_
        first | refine XR_a (op_addN (n := 1) rfl rfl (by simp only [inK]; omega)) rfl rfl ?_ | refine XR_a (op_addI rfl rfl (by simp only [inK]; omega)) rfl rfl ?_ | refine XR_a (op_add rfl rfl) rfl rfl ?_
        refine XR_a (op_assign rfl) rfl rfl ?_
        refine XR_nil ?_
        have hsame : packN ks (i + 1) ((n + 7) / 8) = packN ks i ((n + 7) / 8) := by
          rw [← hs]
          refine List.ext_getElem? fun j => ?_
          rw [List.getElem?_set]
          split
          · rename_i h9
            subst h9
            rw [packN_get hnb, show min 8 (i - 8 * (i / 8)) = i % 8 by omega, hx]
            simp [packN_len, hnb]
          · rfl
        rw [← hsame] at st
        exact X_again (i + 1, _) (.cons rfl (.cons rfl (.cons rfl (.cons rfl (.nil _))))) ⟨by simp only; omega, by simp only; omega, fun h9 => by simp only; rw [hqn h9], st⟩ (by simp only; omega)
    · obtain rfl := hpp (by omega)
      refine X_skip ?_
      refine X_seq ?_
      refine X_seq ?_
      refine X_reg ?_
      refine XR_a (op_move rfl) rfl rfl ?_
      refine XR_a (op_move rfl) rfl rfl ?_
      first | refine XR_a (op_index1 rfl rfl rfl (by omega)) rfl rfl ?_ | refine XR_a (op_index rfl rfl rfl (by omega)) rfl rfl ?_
      refine XR_a (op_ld (cellH_ext (a := ⟨g, o + i, none⟩) st.low hbit) rfl rfl rfl) rfl rfl ?_
      refine XR_nil ?_
      refine X_cond (b := ks[i]) rfl (fun h => ?_) (fun h => ?_)
      · rw [h] at hs
        refine X_reg ?_
        refine XR_a (op_move rfl) rfl rfl ?_
        refine XR_a (op_move rfl) rfl rfl ?_
        first | refine XR_a (op_quoN (n := 8) rfl rfl (by omega) (by simp only [inK]; omega)) rfl rfl ?_ | refine XR_a (op_quoI rfl rfl (by omega) (by omega) (by simp only [inK]; omega)) rfl rfl ?_ | refine XR_a (op_quo rfl rfl (by omega)) rfl rfl ?_
        refine XR_a (op_move rfl) rfl rfl ?_
        refine XR_a (op_move rfl) rfl rfl ?_
        first | refine XR_a (op_quoN (n := 8) rfl rfl (by omega) (by simp only [inK]; omega)) rfl rfl ?_ | refine XR_a (op_quoI rfl rfl (by omega) (by omega) (by simp only [inK]; omega)) rfl rfl ?_ | refine XR_a (op_quo rfl rfl (by omega)) rfl rfl ?_
        first | refine XR_a (op_index1 rfl rfl rfl (by omega)) rfl rfl ?_ | refine XR_a (op_index rfl rfl rfl (by omega)) rfl rfl ?_
        refine XR_a (op_ld (hcur) rfl rfl rfl) rfl rfl ?_
        refine XR_a (op_convI (k' := .i64) rfl rfl (by simp only [inK]; omega)) rfl rfl ?_
        refine XR_a (op_move rfl) rfl rfl ?_
        first | refine XR_a (op_addN rfl rfl (by simp only [inK]; omega)) rfl rfl ?_ | refine XR_a (op_addI rfl rfl (by simp only [inK]; omega)) rfl rfl ?_ | refine XR_a (op_add rfl rfl) rfl rfl ?_
        refine XR_a (op_convI (k' := .u8) rfl rfl (by simp only [inK]; omega)) rfl rfl ?_
        refine XR_as (byteV (UInt8.ofNat (x + p * true.toNat))) (by rw [hbv _ (by simp only [Bool.toNat_true]; omega)]; simp) ?_
        first | refine XR_a (op_index1 rfl rfl rfl (by omega)) rfl rfl ?_ | refine XR_a (op_index rfl rfl rfl (by omega)) rfl rfl ?_
        refine XR_wn (opl_store_row (v := byteV (UInt8.ofNat (x + p * true.toNat))) st 0 rfl rfl rfl (by rw [List.length_map, packN_len]; exact hnb) rfl rfl) rfl rfl fun _ hp st => ?_
        simp only [List.set_cons_zero, List.set_cons_succ] at st
        rw [map_set_byte, hs] at st
        refine XR_nil ?_
        refine X_reg ?_
        refine XR_a (op_move rfl) rfl rfl ?_
        first | refine XR_a (op_mulN (m := 2) rfl rfl (by simp only [inK]; omega)) rfl rfl ?_ | refine XR_a (op_mulI rfl rfl (by simp only [inK]; omega)) rfl rfl ?_ | refine XR_a (op_mul rfl rfl) rfl rfl ?_
        refine XR_a (op_assign rfl) rfl rfl ?_
        refine XR_nil ?_
        refine X_blk ?_
        refine X_reg ?_
        refine XR_a (op_move rfl) rfl rfl ?_
        first | refine XR_a (op_addN (n := 1) rfl rfl (by simp only [inK]; omega)) rfl rfl ?_ | refine XR_a (op_addI rfl rfl (by simp only [inK]; omega)) rfl rfl ?_ | refine XR_a (op_add rfl rfl) rfl rfl ?_
        refine XR_a (op_assign rfl) rfl rfl ?_
        refine XR_nil ?_
        exact X_again (i + 1, _) (.cons rfl (.cons rfl (.cons rfl (.cons rfl (.nil _))))) ⟨by simp only; omega, by simp only; omega, fun h9 => by simp only; rw [hqn h9], st⟩ (by simp only; omega)
      · rw [h] at hs
        refine X_skip ?_
        refine X_reg ?_
        refine XR_a (op_move rfl) rfl rfl ?_
        first | refine XR_a (op_mulN (m := 2) rfl rfl (by simp only [inK]; omega)) rfl rfl ?_ | refine XR_a (op_mulI rfl rfl (by simp only [inK]; omega)) rfl rfl ?_ | refine XR_a (op_mul rfl rfl) rfl rfl ?_
        refine XR_a (op_assign rfl) rfl rfl ?_
        refine XR_nil ?_
        refine X_blk ?_
        refine X_reg ?_
        refine XR_a (op_move rfl) rfl rfl ?_
        first | refine XR_a (op_addN (n := 1) rfl rfl (by simp only [inK]; omega)) rfl rfl ?_ | refine XR_a (op_addI rfl rfl (by simp only [inK]; omega)) rfl rfl ?_ | refine XR_a (op_add rfl rfl) rfl rfl ?_
        refine XR_a (op_assign rfl) rfl rfl ?_
        refine XR_nil ?_
        have hsame : packN ks (i + 1) ((n + 7) / 8) = packN ks i ((n + 7) / 8) := by
          rw [← hs]
          refine List.ext_getElem? fun j => ?_
          rw [List.getElem?_set]
          split
          · rename_i h9
            subst h9
            rw [packN_get hnb, show min 8 (i - 8 * (i / 8)) = i % 8 by omega, hx]
            simp [packN_len, hnb]
          · rfl
        rw [← hsame] at st
        exact X_again (i + 1, _) (.cons rfl (.cons rfl (.cons rfl (.cons rfl (.nil _))))) ⟨by simp only; omega, by simp only; omega, fun h9 => by simp only; rw [hqn h9], st⟩ (by simp only; omega)
  · refine X_exit rfl ?_
    refine X_seq ?_
    refine X_reg ?_
    refine XR_a (op_move rfl) rfl rfl ?_
    refine XR_a (op_assign rfl) rfl rfl ?_
    refine XR_nil ?_
    refine X_ret (.cons (.tmp rfl) .nil) ?_
    obtain rfl : i = n := by omega
    rw [← hl, packN_full] at st
    exact st
end Go.Bn
