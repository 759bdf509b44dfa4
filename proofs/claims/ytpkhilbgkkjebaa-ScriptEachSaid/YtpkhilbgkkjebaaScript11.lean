/- The contracts of script.keep, put, Put, Len and of bindleref31.One, Put. -/
import Derived.Test.YtpkhilbgkkjebaaScript10
import Derived.Test.YtpkhilbgkkjebaaPScript4
import Derived.Test.YtpkhilbgkkjebaaOpsS
set_option linter.unusedVariables false
set_option linter.unusedSimpArgs false
set_option maxHeartbeats 4000000
set_option maxRecDepth 20000
namespace Go.Bn
open Go Proofs

theorem bitsN_bool (b : Bool) : bitsN 1 b.toNat = [b] := by cases b <;> rfl

theorem skeep_spec {n c : Nat} {A : Option Addr} {ks : List Bool} {h0 : Heap} (hr : Rd h0 A (ks.map Value.bool)) (hl : ks.length = n) (hn : n ≤ 1048576) :
    Ret Try.prog 43 [.slice A n c] h0 fun v h' => St h0.size h0 h' [row 5 1 v ((pack ks).map byteV)] := by
  refine ret_of_X Try.func43 rfl rfl fun w0 hw0 => ?_
  simp only [argE, Nat.zero_add, Nat.reduceAdd]
  have st := St.start h0
  refine X_seq ?_
  refine X_reg ?_
  refine XR_a (op_assign rfl) rfl rfl ?_
  refine XR_nil ?_
  refine X_seq ?_
  refine X_reg ?_
  refine XR_wa (opl_new rfl) rfl rfl rfl ?_
  rintro _ hp ⟨p, rfl, hnew⟩
  replace st := st.new hnew
  replace st : St h0.size h0 hp [pt p 82 [.slice none 0 0, .int .u64 0, .int .i64 0]] := st
  replace st := st.wr0
  refine XR_nil ?_
  refine X_seq ?_
  refine X_seq ?_
  refine X_reg ?_
  refine XR_a (op_move rfl) rfl rfl ?_
  refine XR_a (op_len rfl rfl rfl) rfl rfl ?_
  refine XR_a (op_move rfl) rfl rfl ?_
  refine XR_nil ?_
  refine X_block ?_
  refine X_loop (fun i => n - i) (fun i => [(3, .pointer (some ⟨p, 0, none⟩)), (7, .slice A n c), (8, nV n), (9, nV i)])
    (fun (i : Nat) hp => i ≤ n ∧ St h0.size h0 hp [wrR p (ks.take i)])
    0 (.cons rfl (.cons rfl (.cons rfl (.cons rfl (.nil _))))) ⟨Nat.zero_le _, st⟩ ?_
  clear st
  rintro i hp ⟨hi, st⟩
  refine X_seq ?_
  refine X_reg ?_
  refine XR_a (op_lss rfl rfl) rfl rfl ?_
  refine XR_nil ?_
  refine X_seq ?_
  refine X_if rfl (fun h => ?_) (fun h => ?_)
  · have hik : i < ks.length := by omega
    obtain ⟨g, o, rfl, hc⟩ := hr.at_ (by rw [List.length_map]; omega)
    have hbit := hc i (.bool ks[i]) (by simp [hik])
    have htk : ks.take (i + 1) = ks.take i ++ [ks[i]] := List.take_succ_eq_append_getElem hik
    refine X_skip ?_
    refine X_seq ?_
    refine X_block ?_
    refine X_seq ?_
    refine X_reg ?_
    first | refine XR_a (op_index1 rfl rfl rfl (by omega)) rfl rfl ?_ | refine XR_a (op_index rfl rfl rfl (by omega)) rfl rfl ?_
    refine XR_a (op_ld (cellH_ext (a := ⟨g, o + i, none⟩) st.low hbit) rfl rfl rfl) rfl rfl ?_
    refine XR_a (op_assign rfl) rfl rfl ?_
    refine XR_nil ?_
    refine X_seq ?_
    refine X_reg ?_
    refine XR_a (op_assign rfl) rfl rfl ?_
    refine XR_nil ?_
    refine X_seq ?_
    refine X_seq ?_
    refine X_reg ?_
    refine XR_a (op_move rfl) rfl rfl ?_
    refine XR_nil ?_
    refine X_cond (b := ks[i]) rfl (fun h => ?_) (fun h => ?_)
    · refine X_reg ?_
      refine XR_a (op_assign rfl) rfl rfl ?_
      refine XR_nil ?_
      refine X_reg ?_
      refine XR_a (op_move rfl) rfl rfl ?_
      refine XR_wa (opl_call (put_spec (n := 1) (k := 1) st.here (by omega) (by rw [List.length_take]; omega)) rfl (by kernel_rfl)) rfl rfl rfl ?_
      rintro _ hp ⟨rfl, st2⟩
      replace st := st.trans st2
      refine XR_nil ?_
      refine X_blk ?_
      refine X_reg ?_
      first | refine XR_a (op_addN (n := 1) rfl rfl (by simp only [inK]; omega)) rfl rfl ?_ | refine XR_a (op_addI rfl rfl (by simp only [inK]; omega)) rfl rfl ?_ | refine XR_a (op_add rfl rfl) rfl rfl ?_
      refine XR_a (op_move rfl) rfl rfl ?_
      refine XR_nil ?_
      refine X_again (i + 1) (.cons rfl (.cons rfl (.cons rfl (.cons rfl (.nil _))))) ⟨by omega, ?_⟩ (by omega)
      rw [htk, h]; exact st
    · refine X_skip ?_
      refine X_reg ?_
      refine XR_a (op_move rfl) rfl rfl ?_
      refine XR_wa (opl_call (put_spec (n := 0) (k := 1) st.here (by omega) (by rw [List.length_take]; omega)) rfl (by kernel_rfl)) rfl rfl rfl ?_
      rintro _ hp ⟨rfl, st2⟩
      replace st := st.trans st2
      refine XR_nil ?_
      refine X_blk ?_
      refine X_reg ?_
      first | refine XR_a (op_addN (n := 1) rfl rfl (by simp only [inK]; omega)) rfl rfl ?_ | refine XR_a (op_addI rfl rfl (by simp only [inK]; omega)) rfl rfl ?_ | refine XR_a (op_add rfl rfl) rfl rfl ?_
      refine XR_a (op_move rfl) rfl rfl ?_
      refine XR_nil ?_
      refine X_again (i + 1) (.cons rfl (.cons rfl (.cons rfl (.cons rfl (.nil _))))) ⟨by omega, ?_⟩ (by omega)
      rw [htk, h]; exact st
  · obtain rfl : i = n := by omega
    rw [List.take_of_length_le (by omega)] at st
    refine X_exit rfl ?_
    refine X_seq ?_
    refine X_reg ?_
    refine XR_wa (opl_call (wbytes_spec st.here (by omega)) rfl (by kernel_rfl)) rfl rfl rfl ?_
    rintro v hp st2
    replace st := st.join st2
    refine XR_a (op_assign rfl) rfl rfl ?_
    refine XR_nil ?_
    refine X_ret (.cons (.tmp rfl) .nil) ?_
    exact st.keep 1

theorem sput_one {s : Stp} {A K : Option Addr} {cd ck : Nat} {h0 : Heap} (hs : s.right) (ra : Rd h0 A (s.data.map byteV)) (rk : Rd h0 K (s.keep.map Value.bool)) :
    Ret Try.prog 35 [.agg (stC s (.slice A s.data.length cd) (.slice K s.keep.length ck)).toArray] h0 fun v h' => St h0.size h0 h' [row 5 1 v ((oneB s).map byteV)] := by
  obtain ⟨h1, h2, h3, h4, h5, h6⟩ := hs
  obtain ⟨kd, hkd⟩ : ∃ k : Nat, s.kind = k := ⟨s.kind.toNat, by omega⟩
  obtain ⟨nn, hnn⟩ : ∃ k : Nat, s.n + 1 = k := ⟨(s.n + 1).toNat, by omega⟩
  obtain ⟨nm, hnm⟩ : ∃ k : Nat, s.names = k := ⟨s.names.toNat, by omega⟩
  have hB : oneB s = [UInt8.ofNat kd, UInt8.ofNat s.name.length] ++ s.name ++ leB (wid 2) nn ++ leB (wid 4) s.data.length ++ s.data ++ [UInt8.ofNat s.keep.length] ++ pack s.keep ++ [UInt8.ofNat nm, s.fill] := by
    simp only [oneB, hkd, hnn, hnm, Int.toNat_natCast]; rfl
  rw [hB]
  refine ret_of_X Try.func35 rfl rfl fun w0 hw0 => ?_
  simp only [argE, Nat.zero_add, Nat.reduceAdd]
  have st := St.start h0
  refine X_seq ?_
  refine X_reg ?_
  refine XR_wa (opl_bx (cs := stC s (.slice A s.data.length cd) (.slice K s.keep.length ck)) rfl rfl) rfl rfl rfl ?_
  rintro _ hp ⟨p, rfl, hnew⟩
  replace st := st.new hnew
  refine XR_a (op_assign rfl) rfl rfl ?_
  refine XR_nil ?_
  refine X_seq ?_
  refine X_reg ?_
  first | refine XR_a (op_field0 rfl rfl) rfl rfl ?_ | refine XR_a (op_fieldn rfl rfl) rfl rfl ?_
  refine XR_a (op_ld (st.cell 0 (i := 0) rfl rfl) rfl rfl rfl) rfl rfl ?_
  refine XR_a (op_convI (k' := .u8) rfl rfl (by simp only [inK]; omega)) rfl rfl ?_
  first | refine XR_a (op_field0 rfl rfl) rfl rfl ?_ | refine XR_a (op_fieldn rfl rfl) rfl rfl ?_
  refine XR_a (op_ld (st.cell 0 (i := 1) rfl rfl) rfl rfl rfl) rfl rfl ?_
  refine XR_a (op_lenS rfl rfl rfl) rfl rfl ?_
  refine XR_a (op_convI (k' := .u8) rfl rfl (by simp only [inK]; omega)) rfl rfl ?_
  refine XR_wa (opl_lits [.int .u8 s.kind, .int .u8 (s.name.length : Int)] rfl rfl rfl rfl (by kernel_rfl) rfl) rfl rfl rfl ?_
  rintro v hp hnew
  replace st := st.new hnew
  have hcs : [Value.int .u8 s.kind, .int .u8 (s.name.length : Int)] = [UInt8.ofNat kd, UInt8.ofNat s.name.length].map byteV := by
    rw [List.map_cons, List.map_cons, List.map_nil, byteV_nat (by omega), byteV_nat (by omega), hkd]
  rw [hcs] at st
  refine XR_a (op_assign rfl) rfl rfl ?_
  refine XR_nil ?_
  refine X_seq ?_
  refine X_reg ?_
  refine XR_a (op_move rfl) rfl rfl ?_
  first | refine XR_a (op_field0 rfl rfl) rfl rfl ?_ | refine XR_a (op_fieldn rfl rfl) rfl rfl ?_
  refine XR_a (op_ld (st.cell 1 (i := 1) rfl rfl) rfl rfl rfl) rfl rfl ?_
  refine XR_wa (opl_append_str st 0 rfl (by simp; omega) rfl rfl rfl rfl rfl rfl) rfl rfl rfl fun v hp st => ?_
  simp only [List.set_cons_zero, List.set_cons_succ] at st
  rw [← List.map_append] at st
  refine XR_a (op_assign rfl) rfl rfl ?_
  refine XR_nil ?_
  refine X_seq ?_
  refine X_reg ?_
  refine XR_a (op_move rfl) rfl rfl ?_
  first | refine XR_a (op_field0 rfl rfl) rfl rfl ?_ | refine XR_a (op_fieldn rfl rfl) rfl rfl ?_
  refine XR_a (op_ld (st.cell 1 (i := 3) rfl rfl) rfl rfl rfl) rfl rfl ?_
  refine XR_a (op_addI rfl rfl (by simp only [inK]; omega)) rfl rfl ?_
  refine XR_a (op_convI (k' := .u32) rfl rfl (by simp only [inK]; omega)) rfl rfl ?_
  rw [hnn]
  refine XR_wa (opl_call (fput_spec (n := nn) st.here (by omega) (by simp; omega)) rfl (by kernel_rfl)) rfl rfl rfl ?_
  rintro v hp st2
  replace st := st.trans st2
  refine XR_a (op_assign rfl) rfl rfl ?_
  refine XR_nil ?_
  refine X_seq ?_
  refine X_reg ?_
  refine XR_a (op_move rfl) rfl rfl ?_
  first | refine XR_a (op_field0 rfl rfl) rfl rfl ?_ | refine XR_a (op_fieldn rfl rfl) rfl rfl ?_
  refine XR_a (op_ld (st.cell 1 (i := 2) rfl rfl) rfl rfl rfl) rfl rfl ?_
  refine XR_a (op_len rfl rfl rfl) rfl rfl ?_
  refine XR_a (op_convI (k' := .u32) rfl rfl (by simp only [inK]; omega)) rfl rfl ?_
  refine XR_wa (opl_call (fput_spec (n := s.data.length) st.here (by omega) (by simp [leB_length]; have := wid_le 2; omega)) rfl (by kernel_rfl)) rfl rfl rfl ?_
  rintro v hp st2
  replace st := st.trans st2
  refine XR_a (op_assign rfl) rfl rfl ?_
  refine XR_nil ?_
  refine X_seq ?_
  refine X_reg ?_
  refine XR_a (op_move rfl) rfl rfl ?_
  first | refine XR_a (op_field0 rfl rfl) rfl rfl ?_ | refine XR_a (op_fieldn rfl rfl) rfl rfl ?_
  refine XR_a (op_ld (st.cell 1 (i := 2) rfl rfl) rfl rfl rfl) rfl rfl ?_
  refine XR_wa (opl_append st 0 rfl (ra.ext st.low) (by simp) (by intro u hu; obtain ⟨_, _, rfl⟩ := List.mem_map.1 hu; rfl) (by simp [leB_length]; have := wid_le 2; have := wid_le 4; omega) rfl rfl rfl rfl rfl rfl rfl) rfl rfl rfl fun v hp st => ?_
  simp only [List.set_cons_zero, List.set_cons_succ] at st
  rw [← List.map_append] at st
  refine XR_a (op_assign rfl) rfl rfl ?_
  refine XR_nil ?_
  refine X_seq ?_
  refine X_reg ?_
  refine XR_a (op_move rfl) rfl rfl ?_
  first | refine XR_a (op_field0 rfl rfl) rfl rfl ?_ | refine XR_a (op_fieldn rfl rfl) rfl rfl ?_
  first | refine XR_a (op_field0 rfl rfl) rfl rfl ?_ | refine XR_a (op_fieldn rfl rfl) rfl rfl ?_
  refine XR_a (op_ld (st.cell 1 (i := 4) rfl rfl) rfl rfl rfl) rfl rfl ?_
  refine XR_a (op_len rfl rfl rfl) rfl rfl ?_
  refine XR_a (op_convI (k' := .u8) rfl rfl (by simp only [inK]; omega)) rfl rfl ?_
  refine XR_wa (opl_var1 rfl rfl rfl) rfl rfl rfl ?_
  rintro _ hp ⟨A, rfl, hx, hrd⟩
  have st := st.ext hx
  refine XR_wa (opl_append st 0 rfl (hrd) (rfl) (by intro u hu; simp at hu; subst hu; rfl) (by simp [leB_length]; have := wid_le 2; have := wid_le 4; omega) rfl rfl rfl rfl rfl rfl rfl) rfl rfl rfl fun v hp st => ?_
  simp only [List.set_cons_zero, List.set_cons_succ] at st
  rw [show [Value.int .u8 (s.keep.length : Int)] = [UInt8.ofNat s.keep.length].map byteV by rw [List.map_cons, List.map_nil, byteV_nat (by omega)], ← List.map_append] at st
  refine XR_a (op_assign rfl) rfl rfl ?_
  refine XR_nil ?_
  refine X_seq ?_
  refine X_reg ?_
  refine XR_a (op_move rfl) rfl rfl ?_
  first | refine XR_a (op_field0 rfl rfl) rfl rfl ?_ | refine XR_a (op_fieldn rfl rfl) rfl rfl ?_
  first | refine XR_a (op_field0 rfl rfl) rfl rfl ?_ | refine XR_a (op_fieldn rfl rfl) rfl rfl ?_
  refine XR_a (op_ld (st.cell 1 (i := 4) rfl rfl) rfl rfl rfl) rfl rfl ?_
  refine XR_wa (opl_call (skeep_spec (rk.ext st.low) rfl (by omega)) rfl (by kernel_rfl)) rfl rfl rfl ?_
  rintro v9 hp st2
  replace st := st.join st2
  simp only [List.cons_append, List.nil_append] at st
  obtain ⟨A9, n9, c9, rfl, hl9, _, _, hr9⟩ := st.row 0 rfl
  refine XR_wa (opl_append st 1 rfl (hr9) (hl9) (by intro u hu; obtain ⟨_, _, rfl⟩ := List.mem_map.1 hu; rfl) (by simp [leB_length, pack_length]; have := wid_le 2; have := wid_le 4; omega) rfl rfl rfl rfl rfl rfl rfl) rfl rfl rfl fun v hp st => ?_
  simp only [List.set_cons_zero, List.set_cons_succ] at st
  rw [← List.map_append] at st
  refine XR_a (op_assign rfl) rfl rfl ?_
  refine XR_nil ?_
  refine X_seq ?_
  refine X_reg ?_
  refine XR_a (op_move rfl) rfl rfl ?_
  first | refine XR_a (op_field0 rfl rfl) rfl rfl ?_ | refine XR_a (op_fieldn rfl rfl) rfl rfl ?_
  first | refine XR_a (op_field0 rfl rfl) rfl rfl ?_ | refine XR_a (op_fieldn rfl rfl) rfl rfl ?_
  refine XR_a (op_ld (st.cell 2 (i := 5) rfl rfl) rfl rfl rfl) rfl rfl ?_
  refine XR_a (op_convI (k' := .u8) rfl rfl (by simp only [inK]; omega)) rfl rfl ?_
  first | refine XR_a (op_field0 rfl rfl) rfl rfl ?_ | refine XR_a (op_fieldn rfl rfl) rfl rfl ?_
  first | refine XR_a (op_field0 rfl rfl) rfl rfl ?_ | refine XR_a (op_fieldn rfl rfl) rfl rfl ?_
  refine XR_a (op_ld (st.cell 2 (i := 6) rfl rfl) rfl rfl rfl) rfl rfl ?_
  refine XR_wa (opl_lits [.int .u8 s.names, byteV s.fill] rfl rfl rfl rfl (by kernel_rfl) rfl) rfl rfl rfl ?_
  rintro v hp hnew
  replace st := st.new hnew
  have hcs2 : [Value.int .u8 s.names, byteV s.fill] = [UInt8.ofNat nm, s.fill].map byteV := by
    rw [List.map_cons, List.map_cons, List.map_nil, byteV_nat (by omega), hnm]
  rw [hcs2] at st
  obtain ⟨A8, n8, c8, rfl, hl8, _, _, hr8⟩ := st.row 0 rfl
  refine XR_wa (opl_append st 2 rfl (hr8) (hl8) (by intro u hu; obtain ⟨_, _, rfl⟩ := List.mem_map.1 hu; rfl) (by simp [leB_length, pack_length]; have := wid_le 2; have := wid_le 4; omega) rfl rfl rfl rfl rfl rfl rfl) rfl rfl rfl fun v hp st => ?_
  simp only [List.set_cons_zero, List.set_cons_succ] at st
  rw [← List.map_append] at st
  refine XR_a (op_assign rfl) rfl rfl ?_
  refine XR_nil ?_
  refine X_ret (.cons (.tmp rfl) .nil) ?_
  exact st.tail.tail.keep 1
end Go.Bn
