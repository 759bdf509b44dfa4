/- The contracts of crc.Flip and of its reference's; the laws CrcFlips and CrcBursts come to true. -/
import Derived.Test.YtigbhndidohgbaaLaw01
set_option linter.unusedVariables false
set_option linter.unusedSimpArgs false
set_option maxHeartbeats 4000000
set_option maxRecDepth 20000
namespace Go.Bn
open Go Proofs

theorem pow_le128 (j : Nat) (hj : j < 8) : 2 ^ j ≤ 128 := Nat.le_trans (Nat.pow_le_pow_right (by omega) (show j ≤ 7 by omega)) (by decide)
theorem byteV_xor (b : UInt8) (j : Nat) (hj : j < 8) : byteV (b ^^^ UInt8.ofNat (2 ^ j)) = .int .u8 ((b.toNat ^^^ 2 ^ j : Nat) : Int) := by
  simp only [byteV, UInt8.toNat_xor, byte_pow j hj]

theorem bit_ref {m c a : Nat} {A : Option Addr} {l : List UInt8} {h0 : Heap} (hr : Rd h0 A (l.map byteV)) (hl : l.length = m) (hm : m ≤ 1099511627776) (ha : a / 8 < l.length) :
    Ret Try.prog 66 [.slice A m c, .int .i64 (a : Int)] h0 fun v h' => v = .int .i64 (l[a / 8].toNat / 2 ^ (a % 8) % 2 : Nat) ∧ h0 = h' := by
  obtain ⟨b, o, rfl, hc⟩ := hr.at_ (by rw [List.length_map]; omega)
  have hcell := hc (a / 8) (byteV l[a / 8]) (by simp [ha])
  have hbb := (l[a / 8]).toNat_lt
  refine ret_of_X Try.func66 rfl rfl fun w0 hw0 => ?_
  simp only [argE, Nat.zero_add, Nat.reduceAdd]
  refine X_seq ?_
  refine X_reg ?_
  refine XR_a (op_assign rfl) rfl rfl ?_
  refine XR_nil ?_
  refine X_seq ?_
  refine X_reg ?_
  refine XR_a (op_move rfl) rfl rfl ?_
  refine XR_a (op_move rfl) rfl rfl ?_
  first | refine XR_a (op_quoN (n := 8) rfl rfl (by omega) (by simp only [inK]; omega)) rfl rfl ?_ | refine XR_a (op_quoI rfl rfl (by omega) (by omega) (by simp only [inK]; omega)) rfl rfl ?_ | refine XR_a (op_quo rfl rfl (by omega)) rfl rfl ?_
  first | refine XR_a (op_index1 rfl rfl rfl (by omega)) rfl rfl ?_ | refine XR_a (op_index rfl rfl rfl (by omega)) rfl rfl ?_
  refine XR_a (op_ld (hcell) rfl rfl rfl) rfl rfl ?_
  first | refine XR_a (op_convI rfl rfl (by simp only [inK]; omega)) rfl rfl ?_ | refine XR_a (op_conv rfl rfl) rfl rfl ?_
  refine XR_a (op_assign rfl) rfl rfl ?_
  refine XR_nil ?_
  refine X_seq ?_
  refine X_seq ?_
  refine X_reg ?_
  refine XR_a (op_assign rfl) rfl rfl ?_
  refine XR_nil ?_
  refine X_block ?_
  generalize l[a / 8].toNat = q at hbb
  refine X_loop (fun s => 8 - s) (fun s => [(1, .int .i64 (a : Int)), (5, .int .i64 (q / 2 ^ s : Nat)), (6, .int .i64 (s : Int))])
    (fun (s : Nat) hp => h0 = hp ∧ s ≤ a % 8)
    0 (.cons rfl (.cons (by simp; rfl) (.cons rfl (.nil _)))) ⟨rfl, by omega⟩ ?_
  rintro i hp ⟨rfl, hi⟩
  refine X_seq ?_
  refine X_seq ?_
  refine X_reg ?_
  refine XR_a (op_move rfl) rfl rfl ?_
  refine XR_a (op_move rfl) rfl rfl ?_
  first | refine XR_a (op_remN (n := 8) rfl rfl (by omega)) rfl rfl ?_ | refine XR_a (op_remI rfl rfl (by omega) (by omega)) rfl rfl ?_ | refine XR_a (op_rem rfl rfl (by omega)) rfl rfl ?_
  refine XR_a (op_lss rfl rfl) rfl rfl ?_
  refine XR_nil ?_
  refine X_if rfl (fun h => ?_) (fun h => ?_)
  · have hle : q / 2 ^ i ≤ q := Nat.div_le_self _ _
    have e : q / 2 ^ (i + 1) = q / 2 ^ i / 2 := by rw [Nat.pow_succ, Nat.div_div_eq_div_mul]
    generalize q / 2 ^ i = r at hle e
    refine X_skip ?_
    refine X_seq ?_
    refine X_block ?_
    refine X_reg ?_
    refine XR_a (op_move rfl) rfl rfl ?_
    first | refine XR_a (op_quoN (n := 2) rfl rfl (by omega) (by simp only [inK]; omega)) rfl rfl ?_ | refine XR_a (op_quoI rfl rfl (by omega) (by omega) (by simp only [inK]; omega)) rfl rfl ?_ | refine XR_a (op_quo rfl rfl (by omega)) rfl rfl ?_
    refine XR_a (op_assign rfl) rfl rfl ?_
    refine XR_nil ?_
    refine X_blk ?_
    refine X_reg ?_
    refine XR_a (op_move rfl) rfl rfl ?_
    first | refine XR_a (op_addN (n := 1) rfl rfl (by simp only [inK]; omega)) rfl rfl ?_ | refine XR_a (op_addI rfl rfl (by simp only [inK]; omega)) rfl rfl ?_ | refine XR_a (op_add rfl rfl) rfl rfl ?_
    refine XR_a (op_assign rfl) rfl rfl ?_
    refine XR_nil ?_
    exact X_again (i + 1) (.cons rfl (.cons (by rw [e]; rfl) (.cons rfl (.nil _)))) ⟨rfl, by omega⟩ (by omega)
  · refine X_exit rfl ?_
    refine X_seq ?_
    refine X_reg ?_
    refine XR_a (op_move rfl) rfl rfl ?_
    first | refine XR_a (op_remN (n := 2) rfl rfl (by omega)) rfl rfl ?_ | refine XR_a (op_remI rfl rfl (by omega) (by omega)) rfl rfl ?_ | refine XR_a (op_rem rfl rfl (by omega)) rfl rfl ?_
    refine XR_a (op_assign rfl) rfl rfl ?_
    refine XR_nil ?_
    refine X_ret (.cons (.tmp rfl) .nil) ?_
    obtain rfl : i = a % 8 := by omega
    exact ⟨rfl, rfl⟩

theorem flip_ref {m c a bits : Nat} {A : Option Addr} {l : List UInt8} {h0 : Heap} (hr : Rd h0 A (l.map byteV)) (hl : l.length = m) (hm : m ≤ 1099511627776) (hb : bits < 4294967296) (ha : a ≤ 1099511627776) :
    Ret Try.prog 44 [.slice A m c, .int .i64 (a : Int), .int .u32 (bits : Int)] h0 fun v h' => St h0.size h0 h' [row 5 1 v ((flipK l a bits 32).map byteV)] := by
  refine ret_of_X Try.func44 rfl rfl fun w0 hw0 => ?_
  simp only [argE, Nat.zero_add, Nat.reduceAdd]
  refine X_seq ?_
  refine X_reg ?_
  refine XR_a (op_assign rfl) rfl rfl ?_
  refine XR_nil ?_
  refine X_seq ?_
  refine X_reg ?_
  refine XR_wa (opl_lit0 rfl) rfl rfl rfl ?_
  rintro v hp hnew
  have st := (St.start h0).new hnew
  refine XR_a (op_move rfl) rfl rfl ?_
  refine XR_wa (opl_append st 0 rfl (hr.ext st.low) (by simpa using hl) (one_bytes _) (by simp; omega) rfl rfl rfl rfl rfl rfl rfl) rfl rfl rfl fun v hp st => ?_
  simp only [List.set_cons_zero, List.set_cons_succ] at st
  rw [List.nil_append] at st
  refine XR_a (op_assign rfl) rfl rfl ?_
  refine XR_nil ?_
  refine X_seq ?_
  refine X_reg ?_
  refine XR_a (op_move rfl) rfl rfl ?_
  refine XR_a (op_assign rfl) rfl rfl ?_
  refine XR_nil ?_
  refine X_seq ?_
  refine X_seq ?_
  refine X_reg ?_
  refine XR_a (op_assign rfl) rfl rfl ?_
  refine XR_nil ?_
  refine X_block ?_
  obtain ⟨A2, n2, c2, rfl, hlen2, _, _, hrd2⟩ := st.row 0 rfl
  have hn2 : n2 = l.length := by simp at hlen2; omega
  clear hrd2 hlen2
  rw [← flipK_zero l a bits] at st
  refine X_loop (fun s => 32 - s) (fun s => [(1, .int .i64 ((a + s : Nat) : Int)), (7, .slice A2 n2 c2), (8, .int .u32 (bits / 2 ^ s : Nat)), (9, .int .i64 (s : Int))])
    (fun (s : Nat) hp => St h0.size h0 hp [row 5 1 (.slice A2 n2 c2) ((flipK l a bits s).map byteV)] ∧ s ≤ 32)
    0 (.cons rfl (.cons rfl (.cons (by simp; rfl) (.cons rfl (.nil _))))) ⟨st, by omega⟩ ?_
  clear st hr hnew
  rintro k hp ⟨st, hk⟩
  refine X_seq ?_
  refine X_seq ?_
  refine X_reg ?_
  refine XR_a (op_move rfl) rfl rfl ?_
  refine XR_a (op_lss rfl rfl) rfl rfl ?_
  refine XR_nil ?_
  refine X_if rfl (fun h => ?_) (fun h => ?_)
  · have hle : bits / 2 ^ k ≤ bits := Nat.div_le_self _ _
    have hq : bits / 2 ^ (k + 1) = bits / 2 ^ k / 2 := by rw [Nat.pow_succ, Nat.div_div_eq_div_mul]
    have hyes := flipK_yes l a bits k
    have hno := flipK_no l a bits k
    generalize bits / 2 ^ k = q at hle hq hyes hno
    refine X_skip ?_
    refine X_seq ?_
    refine X_block ?_
    refine X_seq ?_
    refine X_seq ?_
    refine X_reg ?_
    refine XR_a (op_move rfl) rfl rfl ?_
    first | refine XR_a (op_remN (n := 2) rfl rfl (by omega)) rfl rfl ?_ | refine XR_a (op_remI rfl rfl (by omega) (by omega)) rfl rfl ?_ | refine XR_a (op_rem rfl rfl (by omega)) rfl rfl ?_
    refine XR_a (op_eql rfl rfl) rfl rfl ?_
    refine XR_a (op_move rfl) rfl rfl ?_
    refine XR_if 23 rfl (fun h => ?_) (fun h => ?_)
    · refine XR_a (op_move rfl) rfl rfl ?_
      first | refine XR_a (op_quoN (n := 8) rfl rfl (by omega) (by simp only [inK]; omega)) rfl rfl ?_ | refine XR_a (op_quoI rfl rfl (by omega) (by omega) (by simp only [inK]; omega)) rfl rfl ?_ | refine XR_a (op_quo rfl rfl (by omega)) rfl rfl ?_
      refine XR_a (op_move rfl) rfl rfl ?_
      refine XR_a (op_len rfl rfl rfl) rfl rfl ?_
      refine XR_a (op_lss rfl rfl) rfl rfl ?_
      refine XR_a (op_pick_t rfl rfl) rfl rfl ?_
      refine XR_nil ?_
      refine X_if rfl (fun h => ?_) (fun h => ?_)
      · refine X_seq ?_
        refine X_reg ?_
        refine XR_a (op_assign rfl) rfl rfl ?_
        refine XR_nil ?_
        refine X_seq ?_
        refine X_seq ?_
        refine X_reg ?_
        refine XR_a (op_assign rfl) rfl rfl ?_
        refine XR_nil ?_
        refine X_block ?_
        have hlt : (a + k) / 8 < (flipK l a bits k).length := by rw [flipK_length]; omega
        replace hyes := hyes (by omega) hlt
        have hj : (a + k) % 8 < 8 := Nat.mod_lt _ (by omega)
        refine X_loop (fun s => 8 - s) (fun s => [(1, .int .i64 ((a + k : Nat) : Int)), (7, .slice A2 n2 c2), (8, .int .u32 (q : Int)), (9, .int .i64 (k : Int)), (10, .int .i64 (2 ^ s : Nat)), (11, .int .i64 (s : Int))])
          (fun (s : Nat) hp' => hp = hp' ∧ s ≤ (a + k) % 8)
          0 (.cons rfl (.cons rfl (.cons rfl (.cons rfl (.cons rfl (.cons rfl (.nil _))))))) ⟨rfl, by omega⟩ ?_
        rintro j hp1 ⟨rfl, hjk⟩
        refine X_seq ?_
        refine X_seq ?_
        refine X_reg ?_
        refine XR_a (op_move rfl) rfl rfl ?_
        refine XR_a (op_move rfl) rfl rfl ?_
        first | refine XR_a (op_remN (n := 8) rfl rfl (by omega)) rfl rfl ?_ | refine XR_a (op_remI rfl rfl (by omega) (by omega)) rfl rfl ?_ | refine XR_a (op_rem rfl rfl (by omega)) rfl rfl ?_
        refine XR_a (op_lss rfl rfl) rfl rfl ?_
        refine XR_nil ?_
        refine X_if rfl (fun h => ?_) (fun h => ?_)
        · have h128 := pow_le128 j (by omega)
          have hp2 : 2 ^ (j + 1) = 2 ^ j * 2 := Nat.pow_succ _ _
          refine X_skip ?_
          refine X_seq ?_
          refine X_block ?_
          refine X_reg ?_
          refine XR_a (op_move rfl) rfl rfl ?_
          first | refine XR_a (op_mulN (n := 2) rfl rfl (by simp only [inK]; omega)) rfl rfl ?_ | refine XR_a (op_mulI rfl rfl (by simp only [inK]; omega)) rfl rfl ?_ | refine XR_a (op_mul rfl rfl) rfl rfl ?_
          refine XR_a (op_assign rfl) rfl rfl ?_
          refine XR_nil ?_
          refine X_blk ?_
          refine X_reg ?_
          refine XR_a (op_move rfl) rfl rfl ?_
          first | refine XR_a (op_addN (n := 1) rfl rfl (by simp only [inK]; omega)) rfl rfl ?_ | refine XR_a (op_addI rfl rfl (by simp only [inK]; omega)) rfl rfl ?_ | refine XR_a (op_add rfl rfl) rfl rfl ?_
          refine XR_a (op_assign rfl) rfl rfl ?_
          refine XR_nil ?_
          exact X_again (j + 1) (.cons rfl (.cons rfl (.cons rfl (.cons rfl (.cons (by rw [hp2]; rfl) (.cons rfl (.nil _))))))) ⟨rfl, by omega⟩ (by omega)
        · obtain rfl : j = (a + k) % 8 := by omega
          have h128 := pow_le128 _ hj
          have hpos : 1 ≤ 2 ^ ((a + k) % 8) := Nat.two_pow_pos _
          obtain ⟨hlen, hrd⟩ := st.rdS 0 rfl
          have hbb := ((flipK l a bits k)[(a + k) / 8]).toNat_lt
          have hxv := byteV_xor (flipK l a bits k)[(a + k) / 8] _ hj
          have hsub := byte_sub _ hj _ hbb
          have hadd := byte_add _ hj _ hbb
          refine X_exit rfl ?_
          refine X_seq ?_
          refine X_seq ?_
          refine X_reg ?_
          refine XR_a (op_move rfl) rfl rfl ?_
          refine XR_a (op_move rfl) rfl rfl ?_
          refine XR_wa (opl_call (bit_ref hrd (by simpa using hlen) (by omega) hlt) rfl (by kernel_rfl)) rfl rfl rfl ?_
          rintro _ _ ⟨rfl, rfl⟩
          refine XR_a (op_eql rfl rfl) rfl rfl ?_
          refine XR_nil ?_
          refine X_if rfl (fun h => ?_) (fun h => ?_)
          · obtain ⟨hle2, hsub⟩ := hsub (by omega)
            refine X_reg ?_
            refine XR_a (op_move rfl) rfl rfl ?_
            refine XR_a (op_neg rfl) rfl rfl ?_
            rw [wrap_in (by simp only [inK]; omega)]
            refine XR_a (op_assign rfl) rfl rfl ?_
            refine XR_nil ?_
            obtain ⟨gb, o, rfl, hc⟩ := hrd.at_ (by rw [List.length_map]; omega)
            have hcell := hc ((a + k) / 8) (byteV (flipK l a bits k)[(a + k) / 8]) (by simp [hlt])
            clear hc
            generalize hy : (flipK l a bits k)[(a + k) / 8] = y at *
            refine X_reg ?_
            refine XR_a (op_move rfl) rfl rfl ?_
            refine XR_a (op_move rfl) rfl rfl ?_
            first | refine XR_a (op_quoN (n := 8) rfl rfl (by omega) (by simp only [inK]; omega)) rfl rfl ?_ | refine XR_a (op_quoI rfl rfl (by omega) (by omega) (by simp only [inK]; omega)) rfl rfl ?_ | refine XR_a (op_quo rfl rfl (by omega)) rfl rfl ?_
            refine XR_a (op_move rfl) rfl rfl ?_
            refine XR_a (op_move rfl) rfl rfl ?_
            first | refine XR_a (op_quoN (n := 8) rfl rfl (by omega) (by simp only [inK]; omega)) rfl rfl ?_ | refine XR_a (op_quoI rfl rfl (by omega) (by omega) (by simp only [inK]; omega)) rfl rfl ?_ | refine XR_a (op_quo rfl rfl (by omega)) rfl rfl ?_
            first | refine XR_a (op_index1 rfl rfl rfl (by omega)) rfl rfl ?_ | refine XR_a (op_index rfl rfl rfl (by omega)) rfl rfl ?_
            refine XR_a (op_ld (hcell) rfl rfl rfl) rfl rfl ?_
            first | refine XR_a (op_convI rfl rfl (by simp only [inK]; omega)) rfl rfl ?_ | refine XR_a (op_conv rfl rfl) rfl rfl ?_
            refine XR_a (op_move rfl) rfl rfl ?_
            refine XR_a (op_addI rfl rfl (by simp only [inK]; omega)) rfl rfl ?_
            refine XR_as (.int .i64 ((y.toNat ^^^ 2 ^ ((a + k) % 8) : Nat) : Int)) (by rw [← hsub]; congr 1; omega) ?_
            have hxl := xor_lt8 hbb (show 2 ^ ((a + k) % 8) < 256 by omega)
            refine XR_a (op_convI rfl rfl (by simp only [inK]; omega)) rfl rfl ?_
            rw [← hxv]
            first | refine XR_a (op_index1 rfl rfl rfl (by omega)) rfl rfl ?_ | refine XR_a (op_index rfl rfl rfl (by omega)) rfl rfl ?_
            refine XR_wn (opl_store_row st 0 rfl rfl rfl (by rw [List.length_map]; exact hlt) rfl rfl) rfl rfl fun _ hp st => ?_
            simp only [List.set_cons_zero, List.set_cons_succ] at st
            rw [← List.map_set, ← hyes] at st
            refine XR_nil ?_
            refine X_seq ?_
            refine X_reg ?_
            refine XR_a (op_move rfl) rfl rfl ?_
            first | refine XR_a (op_quoN (n := 2) rfl rfl (by omega) (by simp only [inK]; omega)) rfl rfl ?_ | refine XR_a (op_quoI rfl rfl (by omega) (by omega) (by simp only [inK]; omega)) rfl rfl ?_ | refine XR_a (op_quo rfl rfl (by omega)) rfl rfl ?_
            refine XR_a (op_assign rfl) rfl rfl ?_
            refine XR_nil ?_
            refine X_reg ?_
            refine XR_a (op_move rfl) rfl rfl ?_
            first | refine XR_a (op_addN (n := 1) rfl rfl (by simp only [inK]; omega)) rfl rfl ?_ | refine XR_a (op_addI rfl rfl (by simp only [inK]; omega)) rfl rfl ?_ | refine XR_a (op_add rfl rfl) rfl rfl ?_
            refine XR_a (op_assign rfl) rfl rfl ?_
            refine XR_nil ?_
            refine X_blk ?_
            refine X_reg ?_
            refine XR_a (op_move rfl) rfl rfl ?_
            first | refine XR_a (op_addN (n := 1) rfl rfl (by simp only [inK]; omega)) rfl rfl ?_ | refine XR_a (op_addI rfl rfl (by simp only [inK]; omega)) rfl rfl ?_ | refine XR_a (op_add rfl rfl) rfl rfl ?_
            refine XR_a (op_assign rfl) rfl rfl ?_
            refine XR_nil ?_
            exact X_again (k + 1) (.cons rfl (.cons rfl (.cons (by rw [hq]; rfl) (.cons rfl (.nil _))))) ⟨st, by omega⟩ (by omega)
          · replace hadd := hadd (by omega)
            refine X_skip ?_
            obtain ⟨gb, o, rfl, hc⟩ := hrd.at_ (by rw [List.length_map]; omega)
            have hcell := hc ((a + k) / 8) (byteV (flipK l a bits k)[(a + k) / 8]) (by simp [hlt])
            clear hc
            generalize hy : (flipK l a bits k)[(a + k) / 8] = y at *
            refine X_reg ?_
            refine XR_a (op_move rfl) rfl rfl ?_
            refine XR_a (op_move rfl) rfl rfl ?_
            first | refine XR_a (op_quoN (n := 8) rfl rfl (by omega) (by simp only [inK]; omega)) rfl rfl ?_ | refine XR_a (op_quoI rfl rfl (by omega) (by omega) (by simp only [inK]; omega)) rfl rfl ?_ | refine XR_a (op_quo rfl rfl (by omega)) rfl rfl ?_
            refine XR_a (op_move rfl) rfl rfl ?_
            refine XR_a (op_move rfl) rfl rfl ?_
            first | refine XR_a (op_quoN (n := 8) rfl rfl (by omega) (by simp only [inK]; omega)) rfl rfl ?_ | refine XR_a (op_quoI rfl rfl (by omega) (by omega) (by simp only [inK]; omega)) rfl rfl ?_ | refine XR_a (op_quo rfl rfl (by omega)) rfl rfl ?_
            first | refine XR_a (op_index1 rfl rfl rfl (by omega)) rfl rfl ?_ | refine XR_a (op_index rfl rfl rfl (by omega)) rfl rfl ?_
            refine XR_a (op_ld (hcell) rfl rfl rfl) rfl rfl ?_
            first | refine XR_a (op_convI rfl rfl (by simp only [inK]; omega)) rfl rfl ?_ | refine XR_a (op_conv rfl rfl) rfl rfl ?_
            refine XR_a (op_move rfl) rfl rfl ?_
            refine XR_a (op_addN rfl rfl (by simp only [inK]; omega)) rfl rfl ?_
            rw [hadd]
            have hxl := xor_lt8 hbb (show 2 ^ ((a + k) % 8) < 256 by omega)
            refine XR_a (op_convI rfl rfl (by simp only [inK]; omega)) rfl rfl ?_
            rw [← hxv]
            first | refine XR_a (op_index1 rfl rfl rfl (by omega)) rfl rfl ?_ | refine XR_a (op_index rfl rfl rfl (by omega)) rfl rfl ?_
            refine XR_wn (opl_store_row st 0 rfl rfl rfl (by rw [List.length_map]; exact hlt) rfl rfl) rfl rfl fun _ hp st => ?_
            simp only [List.set_cons_zero, List.set_cons_succ] at st
            rw [← List.map_set, ← hyes] at st
            refine XR_nil ?_
            refine X_seq ?_
            refine X_reg ?_
            refine XR_a (op_move rfl) rfl rfl ?_
            first | refine XR_a (op_quoN (n := 2) rfl rfl (by omega) (by simp only [inK]; omega)) rfl rfl ?_ | refine XR_a (op_quoI rfl rfl (by omega) (by omega) (by simp only [inK]; omega)) rfl rfl ?_ | refine XR_a (op_quo rfl rfl (by omega)) rfl rfl ?_
            refine XR_a (op_assign rfl) rfl rfl ?_
            refine XR_nil ?_
            refine X_reg ?_
            refine XR_a (op_move rfl) rfl rfl ?_
            first | refine XR_a (op_addN (n := 1) rfl rfl (by simp only [inK]; omega)) rfl rfl ?_ | refine XR_a (op_addI rfl rfl (by simp only [inK]; omega)) rfl rfl ?_ | refine XR_a (op_add rfl rfl) rfl rfl ?_
            refine XR_a (op_assign rfl) rfl rfl ?_
            refine XR_nil ?_
            refine X_blk ?_
            refine X_reg ?_
            refine XR_a (op_move rfl) rfl rfl ?_
            first | refine XR_a (op_addN (n := 1) rfl rfl (by simp only [inK]; omega)) rfl rfl ?_ | refine XR_a (op_addI rfl rfl (by simp only [inK]; omega)) rfl rfl ?_ | refine XR_a (op_add rfl rfl) rfl rfl ?_
            refine XR_a (op_assign rfl) rfl rfl ?_
            refine XR_nil ?_
            exact X_again (k + 1) (.cons rfl (.cons rfl (.cons (by rw [hq]; rfl) (.cons rfl (.nil _))))) ⟨st, by omega⟩ (by omega)
      · refine X_skip ?_
        refine X_seq ?_
        refine X_reg ?_
        refine XR_a (op_move rfl) rfl rfl ?_
        first | refine XR_a (op_quoN (n := 2) rfl rfl (by omega) (by simp only [inK]; omega)) rfl rfl ?_ | refine XR_a (op_quoI rfl rfl (by omega) (by omega) (by simp only [inK]; omega)) rfl rfl ?_ | refine XR_a (op_quo rfl rfl (by omega)) rfl rfl ?_
        refine XR_a (op_assign rfl) rfl rfl ?_
        refine XR_nil ?_
        refine X_reg ?_
        refine XR_a (op_move rfl) rfl rfl ?_
        first | refine XR_a (op_addN (n := 1) rfl rfl (by simp only [inK]; omega)) rfl rfl ?_ | refine XR_a (op_addI rfl rfl (by simp only [inK]; omega)) rfl rfl ?_ | refine XR_a (op_add rfl rfl) rfl rfl ?_
        refine XR_a (op_assign rfl) rfl rfl ?_
        refine XR_nil ?_
        refine X_blk ?_
        refine X_reg ?_
        refine XR_a (op_move rfl) rfl rfl ?_
        first | refine XR_a (op_addN (n := 1) rfl rfl (by simp only [inK]; omega)) rfl rfl ?_ | refine XR_a (op_addI rfl rfl (by simp only [inK]; omega)) rfl rfl ?_ | refine XR_a (op_add rfl rfl) rfl rfl ?_
        refine XR_a (op_assign rfl) rfl rfl ?_
        refine XR_nil ?_
        rw [← hno (by rintro ⟨h1, h2⟩; omega)] at st
        exact X_again (k + 1) (.cons rfl (.cons rfl (.cons (by rw [hq]; rfl) (.cons rfl (.nil _))))) ⟨st, by omega⟩ (by omega)
    · refine XR_no rfl rfl ?_
      refine XR_no rfl rfl ?_
      refine XR_no rfl rfl ?_
      refine XR_no rfl rfl ?_
      refine XR_no rfl rfl ?_
      refine XR_a (op_pick_f rfl rfl) rfl rfl ?_
      refine XR_nil ?_
      refine X_else rfl ?_
      refine X_skip ?_
      refine X_seq ?_
      refine X_reg ?_
      refine XR_a (op_move rfl) rfl rfl ?_
      first | refine XR_a (op_quoN (n := 2) rfl rfl (by omega) (by simp only [inK]; omega)) rfl rfl ?_ | refine XR_a (op_quoI rfl rfl (by omega) (by omega) (by simp only [inK]; omega)) rfl rfl ?_ | refine XR_a (op_quo rfl rfl (by omega)) rfl rfl ?_
      refine XR_a (op_assign rfl) rfl rfl ?_
      refine XR_nil ?_
      refine X_reg ?_
      refine XR_a (op_move rfl) rfl rfl ?_
      first | refine XR_a (op_addN (n := 1) rfl rfl (by simp only [inK]; omega)) rfl rfl ?_ | refine XR_a (op_addI rfl rfl (by simp only [inK]; omega)) rfl rfl ?_ | refine XR_a (op_add rfl rfl) rfl rfl ?_
      refine XR_a (op_assign rfl) rfl rfl ?_
      refine XR_nil ?_
      refine X_blk ?_
      refine X_reg ?_
      refine XR_a (op_move rfl) rfl rfl ?_
      first | refine XR_a (op_addN (n := 1) rfl rfl (by simp only [inK]; omega)) rfl rfl ?_ | refine XR_a (op_addI rfl rfl (by simp only [inK]; omega)) rfl rfl ?_ | refine XR_a (op_add rfl rfl) rfl rfl ?_
      refine XR_a (op_assign rfl) rfl rfl ?_
      refine XR_nil ?_
      rw [← hno (by rintro ⟨h1, h2⟩; omega)] at st
      exact X_again (k + 1) (.cons rfl (.cons rfl (.cons (by rw [hq]; rfl) (.cons rfl (.nil _))))) ⟨st, by omega⟩ (by omega)
  · refine X_exit rfl ?_
    refine X_seq ?_
    refine X_reg ?_
    refine XR_a (op_move rfl) rfl rfl ?_
    refine XR_a (op_assign rfl) rfl rfl ?_
    refine XR_nil ?_
    refine X_ret (.cons (.tmp rfl) .nil) ?_
    obtain rfl : k = 32 := by omega
    exact st
end Go.Bn
