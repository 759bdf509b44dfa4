/- The contracts of the reference's Number, Unpack and Pack. -/
import Derived.Test.YtdiglnhhmbhhjaaBitsR
set_option linter.unusedVariables false
set_option linter.unusedSimpArgs false
set_option maxHeartbeats 4000000
set_option maxRecDepth 20000
namespace Go.Bn
open Go Proofs

theorem ofNat_bit (b : Bool) : (UInt8.ofNat b.toNat).toNat = b.toNat := by cases b <;> rfl

theorem number_ref {m c a : Nat} {k : Int} {A : Option Addr} {bs : List Bool} {h0 : Heap} (hr : Rd h0 A ((b01 bs).map byteV)) (hl : bs.length = m) (hm : m ≤ 1099511627776) (ha : a ≤ 1099511627776) :
    Ret Try.prog 80 [.slice A m c, .int .i64 (a : Int), .int .i64 k] h0 fun v h' => v = .int .u32 (numB bs a (wd 32 k) : Nat) ∧ h0 = h' := by
  have hwd := wd_le 32 k
  refine ret_of_X Try.func80 rfl rfl fun w0 hw0 => ?_
  simp only [argE, Nat.zero_add, Nat.reduceAdd]
  refine X_seq ?_
  refine X_reg ?_
  refine XR_a (op_assign rfl) rfl rfl ?_
  refine XR_nil ?_
  refine X_seq ?_
  refine X_reg ?_
  refine XR_a (op_assign rfl) rfl rfl ?_
  refine XR_nil ?_
  refine X_seq ?_
  refine X_reg ?_
  refine XR_a (op_assign rfl) rfl rfl ?_
  refine XR_nil ?_
  refine X_seq ?_
  refine X_seq ?_
  refine X_reg ?_
  refine XR_a (op_assign rfl) rfl rfl ?_
  refine XR_nil ?_
  refine X_block ?_
  refine X_loop (fun s => 32 - s) (fun s => [(0, .slice A m c), (1, .int .i64 ((a + s : Nat) : Int)), (2, .int .i64 k), (7, .int .u32 (numB bs a s : Nat)), (8, .int .u32 ((2 ^ s % 4294967296 : Nat) : Int)), (9, .int .i64 (s : Int))])
    (fun (s : Nat) hp => h0 = hp ∧ s ≤ wd 32 k)
    0 (.cons rfl (.cons rfl (.cons rfl (.cons (by simp [numB_zero]; rfl) (.cons rfl (.cons rfl (.nil _))))))) ⟨rfl, by omega⟩ ?_
  rintro i hp ⟨rfl, hi⟩
  refine X_seq ?_
  refine X_seq ?_
  refine X_reg ?_
  refine XR_a (op_move rfl) rfl rfl ?_
  refine XR_a (op_move rfl) rfl rfl ?_
  refine XR_wa (opl_call (bwidth_ref k _) rfl (by kernel_rfl)) rfl rfl rfl ?_
  rintro _ _ ⟨rfl, rfl⟩
  refine XR_a (op_lss rfl rfl) rfl rfl ?_
  refine XR_nil ?_
  refine X_if rfl (fun h => ?_) (fun h => ?_)
  · have hn1 := numB_lt bs a i
    have hn2 := numB_lt bs a (i + 1)
    have hp31 : 2 ^ i ≤ 2147483648 := Nat.le_trans (Nat.pow_le_pow_right (by omega) (show i ≤ 31 by omega)) (by decide)
    have hp2 : 2 ^ (i + 1) = 2 ^ i * 2 := Nat.pow_succ _ _
    have hmod : 2 ^ i % 4294967296 = 2 ^ i := Nat.mod_eq_of_lt (by omega)
    rw [hmod]
    have hout := numB_succ_out bs a i
    have hin := numB_succ bs a i
    refine X_skip ?_
    refine X_seq ?_
    refine X_block ?_
    refine X_seq ?_
    refine X_seq ?_
    refine X_reg ?_
    refine XR_a (op_move rfl) rfl rfl ?_
    refine XR_a (op_move rfl) rfl rfl ?_
    refine XR_a (op_len rfl rfl rfl) rfl rfl ?_
    refine XR_a (op_lss rfl rfl) rfl rfl ?_
    refine XR_nil ?_
    refine X_if rfl (fun h => ?_) (fun h => ?_)
    · have hlt : a + i < bs.length := by omega
      obtain ⟨b, o, rfl, hc⟩ := hr.at_ (by rw [List.length_map, b01_length]; omega)
      have hcell := hc (a + i) (byteV (UInt8.ofNat bs[a + i].toNat)) (by rw [List.getElem?_map, b01_get bs _ hlt]; rfl)
      replace hin := hin hlt
      have hob := ofNat_bit bs[a + i]
      have hb1 := Bool.toNat_le bs[a + i]
      generalize bs[a + i] = y at *
      have hprod : 2 ^ i * y.toNat ≤ 2 ^ i * 1 := Nat.mul_le_mul_left _ hb1
      refine X_reg ?_
      refine XR_a (op_move rfl) rfl rfl ?_
      refine XR_a (op_move rfl) rfl rfl ?_
      refine XR_a (op_move rfl) rfl rfl ?_
      refine XR_a (op_move rfl) rfl rfl ?_
      first | refine XR_a (op_index1 rfl rfl rfl (by omega)) rfl rfl ?_ | refine XR_a (op_index rfl rfl rfl (by omega)) rfl rfl ?_
      refine XR_a (op_ld (hcell) rfl rfl rfl) rfl rfl ?_
      refine XR_a (op_convI rfl rfl (by simp only [inK]; omega)) rfl rfl ?_
      rw [hob]
      first | refine XR_a (op_mulN rfl rfl (by simp only [inK]; omega)) rfl rfl ?_ | refine XR_a (op_mulI rfl rfl (by simp only [inK]; omega)) rfl rfl ?_ | refine XR_a (op_mul rfl rfl) rfl rfl ?_
      refine XR_a (op_addN rfl rfl (by simp only [inK]; omega)) rfl rfl ?_
      rw [← hin]
      refine XR_a (op_assign rfl) rfl rfl ?_
      refine XR_nil ?_
      refine X_seq ?_
      refine X_reg ?_
      refine XR_a (op_move rfl) rfl rfl ?_
      refine XR_a (op_mul rfl rfl) rfl rfl ?_
      refine XR_as (.int .u32 ((2 ^ (i + 1) % 4294967296 : Nat) : Int)) (by
        have e : (((2 ^ i : Nat) : Int) * 2) = ((2 ^ (i + 1) : Nat) : Int) := by rw [hp2, Int.natCast_mul]; rfl
        rw [e, wrap_u32]) ?_
      refine XR_a (op_assign rfl) rfl rfl ?_
      refine XR_nil ?_
      refine X_reg ?_
      refine XR_a (op_move rfl) rfl rfl ?_
      first | refine XR_a (op_addN (n := 1) rfl rfl (by simp only [inK]; omega)) rfl rfl ?_ | refine XR_a (op_addI rfl rfl (by simp only [inK]; omega)) rfl rfl ?_ | refine XR_a (op_add rfl rfl) rfl rfl ?_
      refine XR_a (op_assign rfl) rfl rfl ?_
      refine XR_nil ?_
      refine X_blk ?_
      refine X_reg ?_
      refine XR_a (op_move rfl) rfl rfl ?_
      first | refine XR_a (op_addN (n := 1) rfl rfl (by simp only [inK]; omega)) rfl rfl ?_ | refine XR_a (op_addI rfl rfl (by simp only [inK]; omega)) rfl rfl ?_ | refine XR_a (op_add rfl rfl) rfl rfl ?_
      refine XR_a (op_assign rfl) rfl rfl ?_
      refine XR_nil ?_
      exact X_again (i + 1) (.cons rfl (.cons rfl (.cons rfl (.cons rfl (.cons rfl (.cons rfl (.nil _))))))) ⟨rfl, by omega⟩ (by omega)
    · refine X_skip ?_
      refine X_seq ?_
      refine X_reg ?_
      refine XR_a (op_move rfl) rfl rfl ?_
      refine XR_a (op_mul rfl rfl) rfl rfl ?_
      refine XR_as (.int .u32 ((2 ^ (i + 1) % 4294967296 : Nat) : Int)) (by
        have e : (((2 ^ i : Nat) : Int) * 2) = ((2 ^ (i + 1) : Nat) : Int) := by rw [hp2, Int.natCast_mul]; rfl
        rw [e, wrap_u32]) ?_
      refine XR_a (op_assign rfl) rfl rfl ?_
      refine XR_nil ?_
      refine X_reg ?_
      refine XR_a (op_move rfl) rfl rfl ?_
      first | refine XR_a (op_addN (n := 1) rfl rfl (by simp only [inK]; omega)) rfl rfl ?_ | refine XR_a (op_addI rfl rfl (by simp only [inK]; omega)) rfl rfl ?_ | refine XR_a (op_add rfl rfl) rfl rfl ?_
      refine XR_a (op_assign rfl) rfl rfl ?_
      refine XR_nil ?_
      refine X_blk ?_
      refine X_reg ?_
      refine XR_a (op_move rfl) rfl rfl ?_
      first | refine XR_a (op_addN (n := 1) rfl rfl (by simp only [inK]; omega)) rfl rfl ?_ | refine XR_a (op_addI rfl rfl (by simp only [inK]; omega)) rfl rfl ?_ | refine XR_a (op_add rfl rfl) rfl rfl ?_
      refine XR_a (op_assign rfl) rfl rfl ?_
      refine XR_nil ?_
      rw [← hout (by omega)]
      exact X_again (i + 1) (.cons rfl (.cons rfl (.cons rfl (.cons rfl (.cons rfl (.cons rfl (.nil _))))))) ⟨rfl, by omega⟩ (by omega)
  · refine X_exit rfl ?_
    refine X_seq ?_
    refine X_reg ?_
    refine XR_a (op_move rfl) rfl rfl ?_
    refine XR_a (op_assign rfl) rfl rfl ?_
    refine XR_nil ?_
    refine X_ret (.cons (.tmp rfl) .nil) ?_
    obtain rfl : i = wd 32 k := by omega
    exact ⟨rfl, rfl⟩

theorem unpack_ref {m c : Nat} {A : Option Addr} {l : List UInt8} {h0 : Heap} (hr : Rd h0 A (l.map byteV)) (hl : l.length = m) (hm : m ≤ 137438953472) :
    Ret Try.prog 44 [.slice A m c] h0 fun v h' => St h0.size h0 h' [row 5 1 v ((b01 (bitsB l)).map byteV)] := by
  refine ret_of_X Try.func44 rfl rfl fun w0 hw0 => ?_
  simp only [argE, Nat.zero_add, Nat.reduceAdd]
  refine X_seq ?_
  refine X_reg ?_
  refine XR_a (op_assign rfl) rfl rfl ?_
  refine XR_nil ?_
  refine X_seq ?_
  refine X_reg ?_
  refine XR_a (op_assign rfl) rfl rfl ?_
  refine XR_nil ?_
  refine X_seq ?_
  refine X_seq ?_
  refine X_reg ?_
  refine XR_a (op_assign rfl) rfl rfl ?_
  refine XR_nil ?_
  refine X_block ?_
  have st := (St.start h0).nilrow 5 1
  refine X_loop (fun s => m - s.1) (fun s => [(0, .slice A m c), (3, s.2), (4, .int .i64 (s.1 : Int))])
    (fun (s : Nat × Value) hp => St h0.size h0 hp [row 5 1 s.2 ((b01 (bitsB (l.take s.1))).map byteV)] ∧ s.1 ≤ m)
    (0, _) (.cons rfl (.cons rfl (.cons rfl (.nil _)))) ⟨by simpa [b01, bitsB] using st, by simp⟩ ?_
  clear st
  rintro ⟨i, v⟩ hp ⟨st, hi⟩
  simp only at st hi ⊢
  refine X_seq ?_
  refine X_seq ?_
  refine X_reg ?_
  refine XR_a (op_move rfl) rfl rfl ?_
  refine XR_a (op_move rfl) rfl rfl ?_
  refine XR_a (op_len rfl rfl rfl) rfl rfl ?_
  refine XR_a (op_lss rfl rfl) rfl rfl ?_
  refine XR_nil ?_
  refine X_if rfl (fun h => ?_) (fun h => ?_)
  · have hlt : i < l.length := by omega
    obtain ⟨b, o, rfl, hc⟩ := (hr.ext st.low).at_ (by rw [List.length_map]; omega)
    have hcell := hc i (byteV l[i]) (by simp [hlt])
    have hsn : b01 (bitsB (l.take (i + 1))) = b01 (bitsB (l.take i)) ++ b01 (bitsN (wd 32 8) l[i].toNat) := by
      rw [List.take_succ_eq_append_getElem hlt, bitsB_append, b01_append]
      simp [bitsB]; rfl
    have hb := (l[i]).toNat_lt
    have hlb : (bitsB (l.take i)).length = 8 * i := by rw [bitsB_length, List.length_take]; omega
    have h8 : wd 32 8 = 8 := rfl
    refine X_skip ?_
    refine X_seq ?_
    refine X_block ?_
    refine X_reg ?_
    refine XR_a (op_move rfl) rfl rfl ?_
    refine XR_a (op_move rfl) rfl rfl ?_
    refine XR_a (op_move rfl) rfl rfl ?_
    first | refine XR_a (op_index1 rfl rfl rfl (by omega)) rfl rfl ?_ | refine XR_a (op_index rfl rfl rfl (by omega)) rfl rfl ?_
    refine XR_a (op_ld (hcell) rfl rfl rfl) rfl rfl ?_
    first | refine XR_a (op_convI rfl rfl (by simp only [inK]; omega)) rfl rfl ?_ | refine XR_a (op_convU rfl rfl rfl) rfl rfl ?_ | refine XR_a (op_conv rfl rfl) rfl rfl ?_
    refine XR_wa (opl_call (brow_ref (n := l[i].toNat) (k := 8) (by omega)) rfl (by kernel_rfl)) rfl rfl rfl ?_
    rintro v2 hp st2
    obtain ⟨A2, n2, c2, rfl, hlen2, _, _, hrd2⟩ := st2.row 0 rfl
    replace st := st.ext st2.low
    refine XR_wa (opl_append st 0 rfl (hrd2) (hlen2) (one_bytes _) (by simp [b01_length, bitsN_length, hlb, h8]; omega) rfl rfl rfl rfl rfl rfl rfl) rfl rfl rfl fun v hp st => ?_
    simp only [List.set_cons_zero, List.set_cons_succ] at st
    rw [← List.map_append, ← hsn] at st
    refine XR_a (op_assign rfl) rfl rfl ?_
    refine XR_nil ?_
    refine X_blk ?_
    refine X_reg ?_
    refine XR_a (op_move rfl) rfl rfl ?_
    first | refine XR_a (op_addN (n := 1) rfl rfl (by simp only [inK]; omega)) rfl rfl ?_ | refine XR_a (op_addI rfl rfl (by simp only [inK]; omega)) rfl rfl ?_ | refine XR_a (op_add rfl rfl) rfl rfl ?_
    refine XR_a (op_assign rfl) rfl rfl ?_
    refine XR_nil ?_
    exact X_again (i + 1, v) (.cons rfl (.cons rfl (.cons rfl (.nil _)))) ⟨st, by simp only; omega⟩ (by simp only; omega)
  · refine X_exit rfl ?_
    refine X_seq ?_
    refine X_reg ?_
    refine XR_a (op_move rfl) rfl rfl ?_
    refine XR_a (op_assign rfl) rfl rfl ?_
    refine XR_nil ?_
    refine X_ret (.cons (.tmp rfl) .nil) ?_
    rw [List.take_of_length_le (by omega)] at st
    exact st

theorem pack_ref {m c : Nat} {A : Option Addr} {bs : List Bool} {h0 : Heap} (hr : Rd h0 A ((b01 bs).map byteV)) (hl : bs.length = m) (hm : m ≤ 1099511627776) :
    Ret Try.prog 50 [.slice A m c] h0 fun v h' => St h0.size h0 h' [row 5 1 v ((pack bs).map byteV)] := by
  have hpl := pack_length bs
  refine ret_of_X Try.func50 rfl rfl fun w0 hw0 => ?_
  simp only [argE, Nat.zero_add, Nat.reduceAdd]
  refine X_seq ?_
  refine X_reg ?_
  refine XR_a (op_assign rfl) rfl rfl ?_
  refine XR_nil ?_
  refine X_seq ?_
  refine X_reg ?_
  refine XR_a (op_assign rfl) rfl rfl ?_
  refine XR_nil ?_
  refine X_seq ?_
  refine X_reg ?_
  refine XR_a (op_assign rfl) rfl rfl ?_
  refine XR_a (op_assign rfl) rfl rfl ?_
  refine XR_nil ?_
  refine X_seq ?_
  refine X_seq ?_
  refine X_reg ?_
  refine XR_a (op_assign rfl) rfl rfl ?_
  refine XR_nil ?_
  refine X_block ?_
  have st := (St.start h0).nilrow 5 1
  refine X_loop (fun s => m - s.1) (fun s => [(0, .slice A m c), (3, s.2.1), (4, .int .i64 (s.2.2.1 : Nat)), (5, .int .i64 (s.2.2.2 : Nat)), (6, .int .i64 (s.1 : Int))])
    (fun (s : Nat × Value × Nat × Nat) hp => St h0.size h0 hp [row 5 1 s.2.1 (((pack bs).take (if s.1 = m then (m + 7) / 8 else s.1 / 8)).map byteV)] ∧ s.1 ≤ m ∧ (s.1 < m → s.2.2.1 = numB bs (8 * (s.1 / 8)) (s.1 % 8) ∧ s.2.2.2 = 2 ^ (s.1 % 8)))
    (0, _, 0, 1) (.cons rfl (.cons rfl (.cons rfl (.cons rfl (.cons rfl (.nil _)))))) ⟨?_, Nat.zero_le _, fun _ => ⟨by simp [numB_zero], rfl⟩⟩ ?_
  · simp only
    rw [show (if 0 = m then (m + 7) / 8 else 0 / 8) = 0 by split <;> omega, List.take_zero, List.map_nil]
    exact st
  clear st
  rintro ⟨i, v, q, u⟩ hp ⟨st, hi, hq⟩
  simp only at st hi hq ⊢
  refine X_seq ?_
  refine X_seq ?_
  refine X_reg ?_
  refine XR_a (op_move rfl) rfl rfl ?_
  refine XR_a (op_move rfl) rfl rfl ?_
  refine XR_a (op_len rfl rfl rfl) rfl rfl ?_
  refine XR_a (op_lss rfl rfl) rfl rfl ?_
  refine XR_nil ?_
  refine X_if rfl (fun h => ?_) (fun h => ?_)
  · obtain ⟨rfl, rfl⟩ := hq (by omega)
    have hlt : i < bs.length := by omega
    rw [if_neg (by omega)] at st
    obtain ⟨b, o, rfl, hc⟩ := (hr.ext st.low).at_ (by rw [List.length_map, b01_length]; omega)
    have hcell := hc i (byteV (UInt8.ofNat bs[i].toNat)) (by rw [List.getElem?_map, b01_get bs _ hlt]; rfl)
    have hin := numB_succ bs (8 * (i / 8)) (i % 8) (by omega)
    have hob := ofNat_bit bs[i]
    have hb1 := Bool.toNat_le bs[i]
    have hidx : (bs[8 * (i / 8) + i % 8]'(by omega)) = bs[i] := by congr 1; omega
    rw [hidx] at hin
    have hn1 := numB_lt bs (8 * (i / 8)) (i % 8)
    have hn2 := numB_lt bs (8 * (i / 8)) (i % 8 + 1)
    have hp31 : 2 ^ (i % 8) ≤ 128 := Nat.le_trans (Nat.pow_le_pow_right (by omega) (show i % 8 ≤ 7 by omega)) (by decide)
    have hp2 : 2 ^ (i % 8 + 1) = 2 ^ (i % 8) * 2 := Nat.pow_succ _ _
    have hpos : 1 ≤ 2 ^ (i % 8) := Nat.two_pow_pos _
    have hpg : ∀ h : i / 8 < (pack bs).length, (pack bs)[i / 8] = UInt8.ofNat (numB bs (8 * (i / 8)) 8) := fun h => pack_get bs _ h
    generalize bs[i] = y at *
    have hprod : 2 ^ (i % 8) * y.toNat ≤ 2 ^ (i % 8) * 1 := Nat.mul_le_mul_left _ hb1
    refine X_skip ?_
    refine X_seq ?_
    refine X_block ?_
    refine X_seq ?_
    refine X_reg ?_
    refine XR_a (op_move rfl) rfl rfl ?_
    refine XR_a (op_move rfl) rfl rfl ?_
    refine XR_a (op_move rfl) rfl rfl ?_
    refine XR_a (op_move rfl) rfl rfl ?_
    first | refine XR_a (op_index1 rfl rfl rfl (by omega)) rfl rfl ?_ | refine XR_a (op_index rfl rfl rfl (by omega)) rfl rfl ?_
    refine XR_a (op_ld (hcell) rfl rfl rfl) rfl rfl ?_
    refine XR_a (op_convI rfl rfl (by simp only [inK]; omega)) rfl rfl ?_
    rw [hob]
    first | refine XR_a (op_mulN rfl rfl (by simp only [inK]; omega)) rfl rfl ?_ | refine XR_a (op_mulI rfl rfl (by simp only [inK]; omega)) rfl rfl ?_ | refine XR_a (op_mul rfl rfl) rfl rfl ?_
    refine XR_a (op_addN rfl rfl (by simp only [inK]; omega)) rfl rfl ?_
    rw [← hin]
    refine XR_a (op_assign rfl) rfl rfl ?_
    refine XR_nil ?_
    refine X_seq ?_
    refine X_reg ?_
    refine XR_a (op_move rfl) rfl rfl ?_
    first | refine XR_a (op_mulN (n := 2) rfl rfl (by simp only [inK]; omega)) rfl rfl ?_ | refine XR_a (op_mulI rfl rfl (by simp only [inK]; omega)) rfl rfl ?_ | refine XR_a (op_mul rfl rfl) rfl rfl ?_
    rw [← hp2]
    refine XR_a (op_assign rfl) rfl rfl ?_
    refine XR_nil ?_
    refine X_seq ?_
    refine X_reg ?_
    refine XR_a (op_move rfl) rfl rfl ?_
    first | refine XR_a (op_remN (n := 8) rfl rfl (by omega)) rfl rfl ?_ | refine XR_a (op_remI rfl rfl (by omega) (by omega)) rfl rfl ?_ | refine XR_a (op_rem rfl rfl (by omega)) rfl rfl ?_
    refine XR_a (op_eql rfl rfl) rfl rfl ?_
    refine XR_a (op_move rfl) rfl rfl ?_
    refine XR_if 27 rfl (fun h => ?_) (fun h => ?_)
    · refine XR_no rfl rfl ?_
      refine XR_no rfl rfl ?_
      refine XR_no rfl rfl ?_
      refine XR_no rfl rfl ?_
      refine XR_no rfl rfl ?_
      refine XR_a (op_pick_t rfl rfl) rfl rfl ?_
      refine XR_nil ?_
      refine X_then rfl ?_
      refine X_seq ?_
      refine X_reg ?_
      refine XR_a (op_move rfl) rfl rfl ?_
      refine XR_a (op_move rfl) rfl rfl ?_
      refine XR_a (op_convU rfl rfl rfl) rfl rfl ?_
      refine XR_as (byteV (UInt8.ofNat (numB bs (8 * (i / 8)) (i % 8 + 1)))) (by simp [byteV, IntKind.bits]) ?_
      refine XR_wa (opl_var1 rfl rfl rfl) rfl rfl rfl ?_
      rintro _ hp ⟨A, rfl, hx, hrd⟩
      have st := st.ext hx
      refine XR_wa (opl_append st 0 rfl (hrd) (rfl) (by simp [Value.one, byteV]) (by simp; omega) rfl rfl rfl rfl rfl rfl rfl) rfl rfl rfl fun v hp st => ?_
      simp only [List.set_cons_zero, List.set_cons_succ] at st
      refine XR_a (op_assign rfl) rfl rfl ?_
      refine XR_nil ?_
      refine X_seq ?_
      refine X_reg ?_
      refine XR_a (op_assign rfl) rfl rfl ?_
      refine XR_nil ?_
      refine X_reg ?_
      refine XR_a (op_assign rfl) rfl rfl ?_
      refine XR_nil ?_
      refine X_blk ?_
      refine X_reg ?_
      refine XR_a (op_move rfl) rfl rfl ?_
      first | refine XR_a (op_addN (n := 1) rfl rfl (by simp only [inK]; omega)) rfl rfl ?_ | refine XR_a (op_addI rfl rfl (by simp only [inK]; omega)) rfl rfl ?_ | refine XR_a (op_add rfl rfl) rfl rfl ?_
      refine XR_a (op_assign rfl) rfl rfl ?_
      refine XR_nil ?_
      have hlast : numB bs (8 * (i / 8)) 8 = numB bs (8 * (i / 8)) (i % 8 + 1) := by
        by_cases h7 : i % 8 = 7
        · rw [h7]
        · exact numB_cut bs _ _ _ (by omega) (by omega)
      have hlt8 : i / 8 < (pack bs).length := by omega
      have htk : (pack bs).take (i / 8 + 1) = (pack bs).take (i / 8) ++ [UInt8.ofNat (numB bs (8 * (i / 8)) (i % 8 + 1))] := by
        rw [List.take_succ_eq_append_getElem hlt8, hpg hlt8, hlast]
      rw [← List.map_singleton (f := byteV), ← List.map_append, ← htk] at st
      refine X_again (i + 1, v, 0, 1) (.cons rfl (.cons rfl (.cons rfl (.cons rfl (.cons rfl (.nil _)))))) ⟨?_, by simp only; omega, fun hh => ?_⟩ (by simp only; omega)
      · simp only
        rw [show (if i + 1 = m then (m + 7) / 8 else (i + 1) / 8) = i / 8 + 1 by split <;> omega]
        exact st
      · simp only at hh ⊢
        rw [show (i + 1) % 8 = 0 by omega, numB_zero]; exact ⟨rfl, rfl⟩
    · refine XR_a (op_move rfl) rfl rfl ?_
      refine XR_a (op_move rfl) rfl rfl ?_
      refine XR_a (op_len rfl rfl rfl) rfl rfl ?_
      first | refine XR_a (op_subN (n := 1) rfl rfl (by omega) (by simp only [inK]; omega)) rfl rfl ?_ | refine XR_a (op_subI rfl rfl (by simp only [inK]; omega)) rfl rfl ?_ | refine XR_a (op_sub rfl rfl) rfl rfl ?_
      refine XR_a (op_eql rfl rfl) rfl rfl ?_
      refine XR_a (op_pick_f rfl rfl) rfl rfl ?_
      refine XR_nil ?_
      refine X_if rfl (fun h => ?_) (fun h => ?_)
      · refine X_seq ?_
        refine X_reg ?_
        refine XR_a (op_move rfl) rfl rfl ?_
        refine XR_a (op_move rfl) rfl rfl ?_
        refine XR_a (op_convU rfl rfl rfl) rfl rfl ?_
        refine XR_as (byteV (UInt8.ofNat (numB bs (8 * (i / 8)) (i % 8 + 1)))) (by simp [byteV, IntKind.bits]) ?_
        refine XR_wa (opl_var1 rfl rfl rfl) rfl rfl rfl ?_
        rintro _ hp ⟨A, rfl, hx, hrd⟩
        have st := st.ext hx
        refine XR_wa (opl_append st 0 rfl (hrd) (rfl) (by simp [Value.one, byteV]) (by simp; omega) rfl rfl rfl rfl rfl rfl rfl) rfl rfl rfl fun v hp st => ?_
        simp only [List.set_cons_zero, List.set_cons_succ] at st
        refine XR_a (op_assign rfl) rfl rfl ?_
        refine XR_nil ?_
        refine X_seq ?_
        refine X_reg ?_
        refine XR_a (op_assign rfl) rfl rfl ?_
        refine XR_nil ?_
        refine X_reg ?_
        refine XR_a (op_assign rfl) rfl rfl ?_
        refine XR_nil ?_
        refine X_blk ?_
        refine X_reg ?_
        refine XR_a (op_move rfl) rfl rfl ?_
        first | refine XR_a (op_addN (n := 1) rfl rfl (by simp only [inK]; omega)) rfl rfl ?_ | refine XR_a (op_addI rfl rfl (by simp only [inK]; omega)) rfl rfl ?_ | refine XR_a (op_add rfl rfl) rfl rfl ?_
        refine XR_a (op_assign rfl) rfl rfl ?_
        refine XR_nil ?_
        have hlast : numB bs (8 * (i / 8)) 8 = numB bs (8 * (i / 8)) (i % 8 + 1) := by
          by_cases h7 : i % 8 = 7
          · rw [h7]
          · exact numB_cut bs _ _ _ (by omega) (by omega)
        have hlt8 : i / 8 < (pack bs).length := by omega
        have htk : (pack bs).take (i / 8 + 1) = (pack bs).take (i / 8) ++ [UInt8.ofNat (numB bs (8 * (i / 8)) (i % 8 + 1))] := by
          rw [List.take_succ_eq_append_getElem hlt8, hpg hlt8, hlast]
        rw [← List.map_singleton (f := byteV), ← List.map_append, ← htk] at st
        refine X_again (i + 1, v, 0, 1) (.cons rfl (.cons rfl (.cons rfl (.cons rfl (.cons rfl (.nil _)))))) ⟨?_, by simp only; omega, fun hh => ?_⟩ (by simp only; omega)
        · simp only
          rw [show (if i + 1 = m then (m + 7) / 8 else (i + 1) / 8) = i / 8 + 1 by split <;> omega]
          exact st
        · simp only at hh ⊢
          rw [show (i + 1) % 8 = 0 by omega, numB_zero]; exact ⟨rfl, rfl⟩
      · refine X_skip ?_
        refine X_blk ?_
        refine X_reg ?_
        refine XR_a (op_move rfl) rfl rfl ?_
        first | refine XR_a (op_addN (n := 1) rfl rfl (by simp only [inK]; omega)) rfl rfl ?_ | refine XR_a (op_addI rfl rfl (by simp only [inK]; omega)) rfl rfl ?_ | refine XR_a (op_add rfl rfl) rfl rfl ?_
        refine XR_a (op_assign rfl) rfl rfl ?_
        refine XR_nil ?_
        refine X_again (i + 1, v, numB bs (8 * (i / 8)) (i % 8 + 1), 2 ^ (i % 8 + 1)) (.cons rfl (.cons rfl (.cons rfl (.cons rfl (.cons rfl (.nil _)))))) ⟨?_, by simp only; omega, fun hh => ?_⟩ (by simp only; omega)
        · simp only
          rw [if_neg (by omega), show (i + 1) / 8 = i / 8 by omega]
          exact st
        · simp only at hh ⊢
          rw [show (i + 1) / 8 = i / 8 by omega, show (i + 1) % 8 = i % 8 + 1 by omega]; exact ⟨rfl, rfl⟩
  · refine X_exit rfl ?_
    refine X_seq ?_
    refine X_reg ?_
    refine XR_a (op_move rfl) rfl rfl ?_
    refine XR_a (op_assign rfl) rfl rfl ?_
    refine XR_nil ?_
    refine X_ret (.cons (.tmp rfl) .nil) ?_
    obtain rfl : i = m := by omega
    rw [if_pos rfl, List.take_of_length_le (by omega)] at st
    exact st
end Go.Bn
