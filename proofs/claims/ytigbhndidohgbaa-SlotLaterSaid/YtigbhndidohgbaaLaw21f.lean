/- The law SlotLater comes to true: the walk. -/
import Derived.Test.YtigbhndidohgbaaLaw21e
import Derived.Test.YtigbhndidohgbaaOps8
set_option linter.unusedVariables false
set_option linter.unusedSimpArgs false
set_option maxHeartbeats 4000000
set_option maxRecDepth 20000
namespace Go.Bn
open Go Proofs

theorem nextS_no {s n : Slt} (h : ¬ s.right) : nextS s n = (Slt.nil, false) := by
  unfold nextS
  rw [if_neg (fun hh => h hh.1)]
theorem nextS_false {s n : Slt} (h : (nextS s n).2 = false) : nextS s n = (Slt.nil, false) := by
  unfold nextS at *
  split
  · rename_i hh; rw [if_pos hh] at h; cases h
  · rfl
theorem nextS_true {s n : Slt} (h : (nextS s n).2 = true) : (nextS s n).1.right ∧ (nextS s n).1.seq = s.seq + 1 := by
  unfold nextS at *
  split
  · rename_i hh; exact ⟨hh.2.2, rfl⟩
  · rename_i hh; rw [if_neg hh] at h; cases h
theorem sput_ok' {tp : Nat} {s : Slt} {h0 : Heap} (ht : Tab h0 tp) (hs : s.right) : Ret Try.prog 38 [.pointer (some ⟨tp, 0, none⟩), .agg (sltC s).toArray] h0 fun v h' =>
    ∃ v1, v = retVal [v1, .int .i64 0] ∧ St h0.size h0 h' [row 5 1 v1 (s.bytes.map byteV)] := by
  obtain ⟨a, b, c, d⟩ := s
  have hs' := hs
  simp only [Slt.right] at hs'
  have h4 : 0 ≤ c := by obtain ⟨_, _, _, _, h5⟩ := hs'; split at h5 <;> omega
  obtain ⟨a, rfl⟩ : ∃ x : Nat, a = x := ⟨a.toNat, by omega⟩
  obtain ⟨b, rfl⟩ : ∃ x : Nat, b = x := ⟨b.toNat, by omega⟩
  obtain ⟨c, rfl⟩ : ∃ x : Nat, c = x := ⟨c.toNat, by omega⟩
  exact sput_ok ht hs
theorem sput_bad' {v : Value} {s : Slt} {h0 : Heap} (hs : ¬ s.right) : Ret Try.prog 38 [v, .agg (sltC s).toArray] h0 fun v h' => v = retVal [.slice none 0 0, .int .i64 1] ∧ Ext h0 h' := sput_bad hs
theorem sclean_spec' (s : Slt) (e k : Int) (h0 : Heap) : Ret Try.prog 52 [.agg (sltC s).toArray, .int .i64 e, .int .i64 k] h0 fun v h' =>
    v = retVal [.agg (sltC (nextS s ⟨0, e, k, true⟩).1).toArray, .bool (nextS s ⟨0, e, k, true⟩).2] ∧ Ext h0 h' := sclean_spec _ _ _ _ _ _ _
theorem sdirty_spec' (s : Slt) (h0 : Heap) : Ret Try.prog 51 [.agg (sltC s).toArray] h0 fun v h' =>
    v = retVal [.agg (sltC (nextS s ⟨0, s.en, 0, false⟩).1).toArray, .bool (nextS s ⟨0, s.en, 0, false⟩).2] ∧ Ext h0 h' := sdirty_spec _ _ _ _ _
theorem eq_slt (s s' : Slt) (w : World) : (binOp .eql 72 (.agg (sltC s).toArray) (.agg (sltC s').toArray)).run Try.prog w = .ok (.bool (decide (s = s'))) w := eq_slot _ _ _ _ _ _ _ _ w
theorem step0 (s : Slt) : chooseStep (Slt.nil, 3) (s, 0) = (s, 0) := by
  unfold chooseStep
  rw [if_pos ⟨rfl, .inl (by decide)⟩]
theorem stepNo (o T : Slt × Int) (h : T.2 ≠ 0) : chooseStep o T = o := by
  unfold chooseStep
  rw [if_neg (fun hh => h hh.1)]
theorem choose_first {s n : Slt} (hs : s.right) (hn : n.right) (h : s.seq < n.seq) : chooseN (s.bytes ++ n.bytes) = (n, 0) := by
  rw [chooseN_two s.bytes_length n.bytes_length, slotTake_bytes s hs, slotTake_bytes n hn, step0]
  unfold chooseStep
  rw [if_pos ⟨rfl, .inr h⟩]
theorem choose_second {s n : Slt} (hs : s.right) (hn : n.right) (h : s.seq < n.seq) : chooseN (n.bytes ++ s.bytes) = (n, 0) := by
  rw [chooseN_two n.bytes_length s.bytes_length, slotTake_bytes s hs, slotTake_bytes n hn, step0]
  unfold chooseStep
  rw [if_neg (by rintro ⟨_, h1 | h1⟩; exact h1 rfl; simp only at h1; omega)]
theorem choose_left {s : Slt} {x : List UInt8} (hs : s.right) (hx : x.length = 512) (h : (slotTake x).2 ≠ 0) : chooseN (s.bytes ++ x) = (s, 0) := by
  rw [chooseN_two s.bytes_length hx, slotTake_bytes s hs, step0, stepNo _ _ h]
theorem choose_right {s : Slt} {x : List UInt8} (hs : s.right) (hx : x.length = 512) (h : (slotTake x).2 ≠ 0) : chooseN (x ++ s.bytes) = (s, 0) := by
  rw [chooseN_two hx s.bytes_length, slotTake_bytes s hs, stepNo _ _ h, step0]
def Z512 : List UInt8 := List.replicate 512 0
theorem Z512_length : Z512.length = 512 := List.length_replicate
theorem put_left {x y z : List Value} (hx : x.length = 512) (hz : z.length = 512) : (x ++ y).take 0 ++ z.take (min 512 (1024 - 0) * 1) ++ (x ++ y).drop (0 + min 512 (1024 - 0) * 1) = z ++ y := by
  rw [show min 512 (1024 - 0) * 1 = 512 from rfl, List.take_zero, List.nil_append, Nat.zero_add, List.take_of_length_le (by omega), List.drop_left' hx]
theorem put_right {x y z : List Value} (hx : x.length = 512) (hy : y.length = 512) (hz : z.length = 512) : (x ++ y).take 512 ++ z.take (min 512 (1024 - 512) * 1) ++ (x ++ y).drop (512 + min 512 (1024 - 512) * 1) = x ++ z := by
  rw [show min 512 (1024 - 512) * 1 = 512 from rfl, List.take_left' hx, List.take_of_length_le (i := 512) (by omega), List.drop_of_length_le (by rw [List.length_append]; omega), List.append_nil]


theorem slotLater_a {s : Slt} {e k : Int} {m c : Nat} {A : Option Addr} {l : List UInt8} {h0 : Heap} (hs : ¬ s.right) : Ret Try.prog 13 [.agg #[.int .i64 s.seq, .int .i64 s.en, .int .i64 s.dir, .bool s.cl, .int .i64 e, .int .i64 k, .slice A m c]] h0 fun v h' => v = .bool true ∧ Ext h0 h' := by
  have hN1 : nextS s ⟨0, e, k, true⟩ = (Slt.nil, false) := nextS_no hs
  have hN2 : nextS s ⟨0, s.en, 0, false⟩ = (Slt.nil, false) := nextS_no hs
  refine ret_of_X Try.func13 rfl rfl fun w0 hw0 => ?_
  simp only [argE, Nat.zero_add, Nat.reduceAdd]
  have st := St.start h0
  refine X_seq ?_
  refine X_reg ?_
  refine XR_wa (opl_bx rfl rfl) rfl rfl rfl ?_
  rintro _ hp ⟨p, rfl, hnew⟩
  have st := st.new hnew
  refine XR_a (op_assign rfl) rfl rfl ?_
  refine XR_nil ?_
  refine X_seq ?_
  refine X_reg ?_
  refine XR_wa (opl_call (make_spec _) rfl (by kernel_rfl)) rfl rfl rfl ?_
  rintro _ hp ⟨rfl, hx⟩
  replace st := st.ext hx
  refine XR_wa (opl_new (zs := List.replicate 256 (.int .u32 0)) (by kernel_rfl)) rfl rfl rfl ?_
  rintro _ hp ⟨tp, rfl, hnew⟩
  replace st := st.new hnew
  refine XR_wn (opl_store_whole st 0 rfl rfl rfl rfl (by rw [tabV_length]; rfl) tabV_one (by rw [tabV_length, List.length_replicate])) rfl rfl fun _ hp st => ?_
  simp only [List.set_cons_zero, List.set_cons_succ] at st
  refine XR_nil ?_
  refine X_seq ?_
  refine X_reg ?_
  first | refine XR_a (op_field0 rfl rfl) rfl rfl ?_ | refine XR_a (op_fieldn rfl rfl) rfl rfl ?_
  refine XR_a (op_ldA (st.part 1 0 [] (sltC s) [.int .i64 e, .int .i64 k, .slice A m c] rfl rfl) rfl rfl rfl rfl) rfl rfl ?_
  refine XR_wa (opl_call (sput_bad' hs) rfl (by kernel_rfl)) rfl rfl rfl ?_
  rintro _ hp ⟨rfl, hx2⟩
  replace st := st.ext hx2
  refine XR_a (op_move rfl) rfl rfl ?_
  refine XR_a (op_extract rfl rfl) rfl rfl ?_
  refine XR_a (op_extract rfl rfl) rfl rfl ?_
  refine XR_a (op_assign rfl) rfl rfl ?_
  refine XR_a (op_assign rfl) rfl rfl ?_
  refine XR_nil ?_
  refine X_seq ?_
  refine X_reg ?_
  first | refine XR_a (op_field0 rfl rfl) rfl rfl ?_ | refine XR_a (op_fieldn rfl rfl) rfl rfl ?_
  refine XR_a (op_ldA (st.part 1 0 [] (sltC s) [.int .i64 e, .int .i64 k, .slice A m c] rfl rfl) rfl rfl rfl rfl) rfl rfl ?_
  first | refine XR_a (op_field0 rfl rfl) rfl rfl ?_ | refine XR_a (op_fieldn rfl rfl) rfl rfl ?_
  refine XR_a (op_ld (st.cell 1 (i := 4) rfl rfl) rfl rfl rfl) rfl rfl ?_
  first | refine XR_a (op_field0 rfl rfl) rfl rfl ?_ | refine XR_a (op_fieldn rfl rfl) rfl rfl ?_
  refine XR_a (op_ld (st.cell 1 (i := 5) rfl rfl) rfl rfl rfl) rfl rfl ?_
  refine XR_wa (opl_call (sclean_spec' s e k _) rfl (by kernel_rfl)) rfl rfl rfl ?_
  rintro _ hp ⟨rfl, hx2⟩
  replace st := st.ext hx2
  rw [hN1]
  refine XR_a (op_move rfl) rfl rfl ?_
  refine XR_a (op_extract rfl rfl) rfl rfl ?_
  refine XR_a (op_extract rfl rfl) rfl rfl ?_
  refine XR_wa (opl_new rfl) rfl rfl rfl ?_
  rintro _ hp ⟨p6, rfl, hnew⟩
  replace st := st.new hnew
  refine XR_wn (opl_store_whole (us := sltC Slt.nil) st 0 rfl rfl rfl rfl rfl (sltC_one _) rfl) rfl rfl fun _ hp st => ?_
  simp only [List.set_cons_zero, List.set_cons_succ] at st
  refine XR_a (op_assign rfl) rfl rfl ?_
  refine XR_nil ?_
  refine X_seq ?_
  refine X_seq ?_
  refine X_reg ?_
  refine XR_a (op_move rfl) rfl rfl ?_
  first | refine XR_a (op_notd rfl) rfl rfl ?_ | refine XR_a (op_not rfl) rfl rfl ?_
  refine XR_nil ?_
  refine X_then rfl ?_
  refine X_reg ?_
  first | refine XR_a (op_field0 rfl rfl) rfl rfl ?_ | refine XR_a (op_fieldn rfl rfl) rfl rfl ?_
  refine XR_a (op_ldA (st.part 2 0 [] (sltC s) [.int .i64 e, .int .i64 k, .slice A m c] rfl rfl) rfl rfl rfl rfl) rfl rfl ?_
  refine XR_wa (opl_call (sdirty_spec' s _) rfl (by kernel_rfl)) rfl rfl rfl ?_
  rintro _ hp ⟨rfl, hx2⟩
  replace st := st.ext hx2
  rw [hN2]
  refine XR_a (op_move rfl) rfl rfl ?_
  refine XR_a (op_extract rfl rfl) rfl rfl ?_
  refine XR_a (op_extract rfl rfl) rfl rfl ?_
  refine XR_wn (opl_store_whole (us := sltC Slt.nil) st 0 rfl rfl rfl rfl rfl (sltC_one _) rfl) rfl rfl fun _ hp st => ?_
  simp only [List.set_cons_zero, List.set_cons_succ] at st
  refine XR_a (op_assign rfl) rfl rfl ?_
  refine XR_nil ?_
  refine X_seq ?_
  refine X_reg ?_
  refine XR_a (op_ldA (st.cells 0 rfl) rfl rfl rfl rfl) rfl rfl ?_
  refine XR_wa (opl_call (sput_bad' (s := Slt.nil) (by decide)) rfl (by kernel_rfl)) rfl rfl rfl ?_
  rintro _ hp ⟨rfl, hx2⟩
  replace st := st.ext hx2
  refine XR_a (op_move rfl) rfl rfl ?_
  refine XR_a (op_extract rfl rfl) rfl rfl ?_
  refine XR_a (op_extract rfl rfl) rfl rfl ?_
  refine XR_a (op_assign rfl) rfl rfl ?_
  refine XR_a (op_assign rfl) rfl rfl ?_
  refine XR_nil ?_
  refine X_seq ?_
  refine X_seq ?_
  refine X_reg ?_
  refine XR_a (op_move rfl) rfl rfl ?_
  refine XR_a (op_neq rfl rfl) rfl rfl ?_
  refine XR_as (.bool true) rfl ?_
  refine XR_a (op_move rfl) rfl rfl ?_
  refine XR_no rfl rfl ?_
  refine XR_no rfl rfl ?_
  refine XR_a (op_pick_t rfl rfl) rfl rfl ?_
  refine XR_a (op_move rfl) rfl rfl ?_
  refine XR_no rfl rfl ?_
  refine XR_no rfl rfl ?_
  refine XR_a (op_pick_t rfl rfl) rfl rfl ?_
  refine XR_a (op_move rfl) rfl rfl ?_
  refine XR_no rfl rfl ?_
  refine XR_no rfl rfl ?_
  refine XR_no rfl rfl ?_
  refine XR_no rfl rfl ?_
  refine XR_a (op_pick_t rfl rfl) rfl rfl ?_
  refine XR_nil ?_
  refine X_then rfl ?_
  refine X_seq ?_
  refine X_reg ?_
  refine XR_wa (opl_call (lives21 _) rfl (by kernel_rfl)) rfl rfl rfl ?_
  rintro _ hp ⟨rfl, hx⟩
  refine XR_a (op_assign rfl) rfl rfl ?_
  refine XR_nil ?_
  refine X_ret (.cons (.tmp rfl) .nil) ?_
  exact ⟨rfl, st.low.trans (hx.mono st.low.size)⟩

theorem slotLater_b {s : Slt} {e k : Int} {m c : Nat} {A : Option Addr} {l : List UInt8} {h0 : Heap} (hs : s.right) (hN1 : nextS s ⟨0, e, k, true⟩ = (Slt.nil, false)) (hN2 : nextS s ⟨0, s.en, 0, false⟩ = (Slt.nil, false)) : Ret Try.prog 13 [.agg #[.int .i64 s.seq, .int .i64 s.en, .int .i64 s.dir, .bool s.cl, .int .i64 e, .int .i64 k, .slice A m c]] h0 fun v h' => v = .bool true ∧ Ext h0 h' := by
  refine ret_of_X Try.func13 rfl rfl fun w0 hw0 => ?_
  simp only [argE, Nat.zero_add, Nat.reduceAdd]
  have st := St.start h0
  refine X_seq ?_
  refine X_reg ?_
  refine XR_wa (opl_bx rfl rfl) rfl rfl rfl ?_
  rintro _ hp ⟨p, rfl, hnew⟩
  have st := st.new hnew
  refine XR_a (op_assign rfl) rfl rfl ?_
  refine XR_nil ?_
  refine X_seq ?_
  refine X_reg ?_
  refine XR_wa (opl_call (make_spec _) rfl (by kernel_rfl)) rfl rfl rfl ?_
  rintro _ hp ⟨rfl, hx⟩
  replace st := st.ext hx
  refine XR_wa (opl_new (zs := List.replicate 256 (.int .u32 0)) (by kernel_rfl)) rfl rfl rfl ?_
  rintro _ hp ⟨tp, rfl, hnew⟩
  replace st := st.new hnew
  refine XR_wn (opl_store_whole st 0 rfl rfl rfl rfl (by rw [tabV_length]; rfl) tabV_one (by rw [tabV_length, List.length_replicate])) rfl rfl fun _ hp st => ?_
  simp only [List.set_cons_zero, List.set_cons_succ] at st
  refine XR_nil ?_
  refine X_seq ?_
  refine X_reg ?_
  first | refine XR_a (op_field0 rfl rfl) rfl rfl ?_ | refine XR_a (op_fieldn rfl rfl) rfl rfl ?_
  refine XR_a (op_ldA (st.part 1 0 [] (sltC s) [.int .i64 e, .int .i64 k, .slice A m c] rfl rfl) rfl rfl rfl rfl) rfl rfl ?_
  refine XR_wa (opl_call (sput_ok' (st.tab 0 rfl) hs) rfl (by kernel_rfl)) rfl rfl rfl ?_
  rintro _ hp ⟨v1, rfl, st2⟩
  replace st := st.join st2
  simp only [List.cons_append, List.nil_append] at st
  refine XR_a (op_move rfl) rfl rfl ?_
  refine XR_a (op_extract rfl rfl) rfl rfl ?_
  refine XR_a (op_extract rfl rfl) rfl rfl ?_
  refine XR_a (op_assign rfl) rfl rfl ?_
  refine XR_a (op_assign rfl) rfl rfl ?_
  refine XR_nil ?_
  refine X_seq ?_
  refine X_reg ?_
  first | refine XR_a (op_field0 rfl rfl) rfl rfl ?_ | refine XR_a (op_fieldn rfl rfl) rfl rfl ?_
  refine XR_a (op_ldA (st.part 2 0 [] (sltC s) [.int .i64 e, .int .i64 k, .slice A m c] rfl rfl) rfl rfl rfl rfl) rfl rfl ?_
  first | refine XR_a (op_field0 rfl rfl) rfl rfl ?_ | refine XR_a (op_fieldn rfl rfl) rfl rfl ?_
  refine XR_a (op_ld (st.cell 2 (i := 4) rfl rfl) rfl rfl rfl) rfl rfl ?_
  first | refine XR_a (op_field0 rfl rfl) rfl rfl ?_ | refine XR_a (op_fieldn rfl rfl) rfl rfl ?_
  refine XR_a (op_ld (st.cell 2 (i := 5) rfl rfl) rfl rfl rfl) rfl rfl ?_
  refine XR_wa (opl_call (sclean_spec' s e k _) rfl (by kernel_rfl)) rfl rfl rfl ?_
  rintro _ hp ⟨rfl, hx2⟩
  replace st := st.ext hx2
  rw [hN1]
  refine XR_a (op_move rfl) rfl rfl ?_
  refine XR_a (op_extract rfl rfl) rfl rfl ?_
  refine XR_a (op_extract rfl rfl) rfl rfl ?_
  refine XR_wa (opl_new rfl) rfl rfl rfl ?_
  rintro _ hp ⟨p6, rfl, hnew⟩
  replace st := st.new hnew
  refine XR_wn (opl_store_whole (us := sltC Slt.nil) st 0 rfl rfl rfl rfl rfl (sltC_one _) rfl) rfl rfl fun _ hp st => ?_
  simp only [List.set_cons_zero, List.set_cons_succ] at st
  refine XR_a (op_assign rfl) rfl rfl ?_
  refine XR_nil ?_
  refine X_seq ?_
  refine X_seq ?_
  refine X_reg ?_
  refine XR_a (op_move rfl) rfl rfl ?_
  first | refine XR_a (op_notd rfl) rfl rfl ?_ | refine XR_a (op_not rfl) rfl rfl ?_
  refine XR_nil ?_
  refine X_then rfl ?_
  refine X_reg ?_
  first | refine XR_a (op_field0 rfl rfl) rfl rfl ?_ | refine XR_a (op_fieldn rfl rfl) rfl rfl ?_
  refine XR_a (op_ldA (st.part 3 0 [] (sltC s) [.int .i64 e, .int .i64 k, .slice A m c] rfl rfl) rfl rfl rfl rfl) rfl rfl ?_
  refine XR_wa (opl_call (sdirty_spec' s _) rfl (by kernel_rfl)) rfl rfl rfl ?_
  rintro _ hp ⟨rfl, hx2⟩
  replace st := st.ext hx2
  rw [hN2]
  refine XR_a (op_move rfl) rfl rfl ?_
  refine XR_a (op_extract rfl rfl) rfl rfl ?_
  refine XR_a (op_extract rfl rfl) rfl rfl ?_
  refine XR_wn (opl_store_whole (us := sltC Slt.nil) st 0 rfl rfl rfl rfl rfl (sltC_one _) rfl) rfl rfl fun _ hp st => ?_
  simp only [List.set_cons_zero, List.set_cons_succ] at st
  refine XR_a (op_assign rfl) rfl rfl ?_
  refine XR_nil ?_
  refine X_seq ?_
  refine X_reg ?_
  refine XR_a (op_ldA (st.cells 0 rfl) rfl rfl rfl rfl) rfl rfl ?_
  refine XR_wa (opl_call (sput_bad' (s := Slt.nil) (by decide)) rfl (by kernel_rfl)) rfl rfl rfl ?_
  rintro _ hp ⟨rfl, hx2⟩
  replace st := st.ext hx2
  refine XR_a (op_move rfl) rfl rfl ?_
  refine XR_a (op_extract rfl rfl) rfl rfl ?_
  refine XR_a (op_extract rfl rfl) rfl rfl ?_
  refine XR_a (op_assign rfl) rfl rfl ?_
  refine XR_a (op_assign rfl) rfl rfl ?_
  refine XR_nil ?_
  refine X_seq ?_
  refine X_seq ?_
  refine X_reg ?_
  refine XR_a (op_move rfl) rfl rfl ?_
  refine XR_a (op_neq rfl rfl) rfl rfl ?_
  refine XR_as (.bool false) rfl ?_
  refine XR_a (op_move rfl) rfl rfl ?_
  refine XR_a (op_move rfl) rfl rfl ?_
  first | refine XR_a (op_notd rfl) rfl rfl ?_ | refine XR_a (op_not rfl) rfl rfl ?_
  refine XR_a (op_pick_f rfl rfl) rfl rfl ?_
  refine XR_a (op_move rfl) rfl rfl ?_
  refine XR_no rfl rfl ?_
  refine XR_no rfl rfl ?_
  refine XR_a (op_pick_t rfl rfl) rfl rfl ?_
  refine XR_a (op_move rfl) rfl rfl ?_
  refine XR_no rfl rfl ?_
  refine XR_no rfl rfl ?_
  refine XR_no rfl rfl ?_
  refine XR_no rfl rfl ?_
  refine XR_a (op_pick_t rfl rfl) rfl rfl ?_
  refine XR_nil ?_
  refine X_then rfl ?_
  refine X_seq ?_
  refine X_reg ?_
  refine XR_wa (opl_call (lives21 _) rfl (by kernel_rfl)) rfl rfl rfl ?_
  rintro _ hp ⟨rfl, hx⟩
  refine XR_a (op_assign rfl) rfl rfl ?_
  refine XR_nil ?_
  refine X_ret (.cons (.tmp rfl) .nil) ?_
  exact ⟨rfl, st.low.trans (hx.mono st.low.size)⟩

theorem neq_slt (s s' : Slt) (w : World) : (binOp .neq 72 (.agg (sltC s).toArray) (.agg (sltC s').toArray)).run Try.prog w = .ok (.bool (decide (s ≠ s'))) w := by
  have h := eq_slt s s' w
  rw [run_neq_of_eql h]
  simp

theorem slotLater_cTrue {s : Slt} {e k : Int} {m c : Nat} {A : Option Addr} {l : List UInt8} {h0 : Heap} (hs : s.right) (hr : Rd h0 A (l.map byteV)) (hl : l.length = m) (hmc : m ≤ c) (hpar : s.seq % 2 = 1) (h1 : (nextS s ⟨0, e, k, true⟩).2 = true) : Ret Try.prog 13 [.agg #[.int .i64 s.seq, .int .i64 s.en, .int .i64 s.dir, .bool s.cl, .int .i64 e, .int .i64 k, .slice A m c]] h0 fun v h' => v = .bool true ∧ Ext h0 h' := by
  obtain ⟨n, hn⟩ : ∃ n, (nextS s ⟨0, e, k, true⟩).1 = n := ⟨_, rfl⟩
  have hnr : n.right ∧ n.seq = s.seq + 1 := by rw [← hn]; exact nextS_true h1
  obtain ⟨hnr, hseq⟩ := hnr
  have h9 := hnr
  simp only [Slt.right] at h9
  have hsl := s.bytes_length
  have hnl := n.bytes_length
  refine ret_of_X Try.func13 rfl rfl fun w0 hw0 => ?_
  simp only [argE, Nat.zero_add, Nat.reduceAdd]
  have st := St.start h0
  refine X_seq ?_
  refine X_reg ?_
  refine XR_wa (opl_bx rfl rfl) rfl rfl rfl ?_
  rintro _ hp ⟨p, rfl, hnew⟩
  have st := st.new hnew
  refine XR_a (op_assign rfl) rfl rfl ?_
  refine XR_nil ?_
  refine X_seq ?_
  refine X_reg ?_
  refine XR_wa (opl_call (make_spec _) rfl (by kernel_rfl)) rfl rfl rfl ?_
  rintro _ hp ⟨rfl, hx⟩
  replace st := st.ext hx
  refine XR_wa (opl_new (zs := List.replicate 256 (.int .u32 0)) (by kernel_rfl)) rfl rfl rfl ?_
  rintro _ hp ⟨tp, rfl, hnew⟩
  replace st := st.new hnew
  refine XR_wn (opl_store_whole st 0 rfl rfl rfl rfl (by rw [tabV_length]; rfl) tabV_one (by rw [tabV_length, List.length_replicate])) rfl rfl fun _ hp st => ?_
  simp only [List.set_cons_zero, List.set_cons_succ] at st
  refine XR_nil ?_
  refine X_seq ?_
  refine X_reg ?_
  first | refine XR_a (op_field0 rfl rfl) rfl rfl ?_ | refine XR_a (op_fieldn rfl rfl) rfl rfl ?_
  refine XR_a (op_ldA (st.part 1 0 [] (sltC s) [.int .i64 e, .int .i64 k, .slice A m c] rfl rfl) rfl rfl rfl rfl) rfl rfl ?_
  refine XR_wa (opl_call (sput_ok' (st.tab 0 rfl) hs) rfl (by kernel_rfl)) rfl rfl rfl ?_
  rintro _ hp ⟨v1, rfl, st2⟩
  replace st := st.join st2
  simp only [List.cons_append, List.nil_append] at st
  obtain ⟨A1, n1, c1, rfl, hlen1, hnc1, _, hrd1⟩ := st.row 0 rfl
  obtain rfl : n1 = 512 := by rw [List.length_map, hsl] at hlen1; omega
  refine XR_a (op_move rfl) rfl rfl ?_
  refine XR_a (op_extract rfl rfl) rfl rfl ?_
  refine XR_a (op_extract rfl rfl) rfl rfl ?_
  refine XR_a (op_assign rfl) rfl rfl ?_
  refine XR_a (op_assign rfl) rfl rfl ?_
  refine XR_nil ?_
  refine X_seq ?_
  refine X_reg ?_
  first | refine XR_a (op_field0 rfl rfl) rfl rfl ?_ | refine XR_a (op_fieldn rfl rfl) rfl rfl ?_
  refine XR_a (op_ldA (st.part 2 0 [] (sltC s) [.int .i64 e, .int .i64 k, .slice A m c] rfl rfl) rfl rfl rfl rfl) rfl rfl ?_
  first | refine XR_a (op_field0 rfl rfl) rfl rfl ?_ | refine XR_a (op_fieldn rfl rfl) rfl rfl ?_
  refine XR_a (op_ld (st.cell 2 (i := 4) rfl rfl) rfl rfl rfl) rfl rfl ?_
  first | refine XR_a (op_field0 rfl rfl) rfl rfl ?_ | refine XR_a (op_fieldn rfl rfl) rfl rfl ?_
  refine XR_a (op_ld (st.cell 2 (i := 5) rfl rfl) rfl rfl rfl) rfl rfl ?_
  refine XR_wa (opl_call (sclean_spec' s e k _) rfl (by kernel_rfl)) rfl rfl rfl ?_
  rintro _ hp ⟨rfl, hx2⟩
  replace st := st.ext hx2
  rw [h1, hn]
  refine XR_a (op_move rfl) rfl rfl ?_
  refine XR_a (op_extract rfl rfl) rfl rfl ?_
  refine XR_a (op_extract rfl rfl) rfl rfl ?_
  refine XR_wa (opl_new rfl) rfl rfl rfl ?_
  rintro _ hp ⟨p6, rfl, hnew⟩
  replace st := st.new hnew
  refine XR_wn (opl_store_whole (us := sltC n) st 0 rfl rfl rfl rfl rfl (sltC_one _) rfl) rfl rfl fun _ hp st => ?_
  simp only [List.set_cons_zero, List.set_cons_succ] at st
  refine XR_a (op_assign rfl) rfl rfl ?_
  refine XR_nil ?_
  refine X_seq ?_
  refine X_seq ?_
  refine X_reg ?_
  refine XR_a (op_move rfl) rfl rfl ?_
  first | refine XR_a (op_notd rfl) rfl rfl ?_ | refine XR_a (op_not rfl) rfl rfl ?_
  refine XR_nil ?_
  refine X_else rfl ?_
  refine X_skip ?_
  refine X_seq ?_
  refine X_reg ?_
  refine XR_a (op_ldA (st.cells 0 rfl) rfl rfl rfl rfl) rfl rfl ?_
  refine XR_wa (opl_call (sput_ok' (st.tab 2 rfl) hnr) rfl (by kernel_rfl)) rfl rfl rfl ?_
  rintro _ hp ⟨v2, rfl, st2⟩
  replace st := st.join st2
  simp only [List.cons_append, List.nil_append] at st
  obtain ⟨A2, n2, c2, rfl, hlen2, hnc2, _, hrd2⟩ := st.row 0 rfl
  obtain rfl : n2 = 512 := by rw [List.length_map, hnl] at hlen2; omega
  refine XR_a (op_move rfl) rfl rfl ?_
  refine XR_a (op_extract rfl rfl) rfl rfl ?_
  refine XR_a (op_extract rfl rfl) rfl rfl ?_
  refine XR_a (op_assign rfl) rfl rfl ?_
  refine XR_a (op_assign rfl) rfl rfl ?_
  refine XR_nil ?_
  refine X_seq ?_
  refine X_seq ?_
  refine X_reg ?_
  refine XR_a (op_move rfl) rfl rfl ?_
  refine XR_a (op_neq rfl rfl) rfl rfl ?_
  refine XR_as (.bool false) rfl ?_
  refine XR_a (op_move rfl) rfl rfl ?_
  refine XR_a (op_move rfl) rfl rfl ?_
  first | refine XR_a (op_notd rfl) rfl rfl ?_ | refine XR_a (op_not rfl) rfl rfl ?_
  refine XR_a (op_pick_f rfl rfl) rfl rfl ?_
  refine XR_a (op_move rfl) rfl rfl ?_
  refine XR_a (op_move rfl) rfl rfl ?_
  refine XR_a (op_neq rfl rfl) rfl rfl ?_
  refine XR_as (.bool false) rfl ?_
  refine XR_a (op_pick_f rfl rfl) rfl rfl ?_
  refine XR_a (op_move rfl) rfl rfl ?_
  first | refine XR_a (op_field0 rfl rfl) rfl rfl ?_ | refine XR_a (op_fieldn rfl rfl) rfl rfl ?_
  refine XR_a (op_ld (st.cell 4 (i := 6) rfl rfl) rfl rfl rfl) rfl rfl ?_
  refine XR_a (op_len rfl rfl rfl) rfl rfl ?_
  refine XR_a (op_neq rfl rfl) rfl rfl ?_
  refine XR_a (op_pick_f rfl rfl) rfl rfl ?_
  refine XR_nil ?_
  refine X_if rfl (fun h => ?_) (fun h => ?_)
  · refine X_seq ?_
    refine X_reg ?_
    refine XR_wa (opl_call (lives21 _) rfl (by kernel_rfl)) rfl rfl rfl ?_
    rintro _ hp ⟨rfl, hx⟩
    refine XR_a (op_assign rfl) rfl rfl ?_
    refine XR_nil ?_
    refine X_ret (.cons (.tmp rfl) .nil) ?_
    exact ⟨rfl, st.low.trans (hx.mono st.low.size)⟩
  · refine X_skip ?_
    refine X_seq ?_
    refine X_reg ?_
    obtain rfl : m = 512 := by omega
    refine XR_wa (opl_mk (n := 1024) (by omega) rfl rfl rfl) rfl rfl rfl ?_
    rintro v hp hnew
    replace st := st.new hnew
    rw [show List.replicate 1024 (Value.int .u8 0) = Z512.map byteV ++ Z512.map byteV by
      unfold Z512; rw [List.map_replicate, List.replicate_append_replicate]; rfl] at st
    have hz : (Z512.map byteV).length = 512 := by rw [List.length_map, Z512_length]
    have hsv : (s.bytes.map byteV).length = 512 := by rw [List.length_map, hsl]
    have hnv : (n.bytes.map byteV).length = 512 := by rw [List.length_map, hnl]
    have hlv : (l.map byteV).length = 512 := by rw [List.length_map, hl]
    generalize Z512.map byteV = zz at *
    obtain ⟨ga, na, ca, rfl, hlena, hnca, _, hrda⟩ := st.row0 0 rfl (by rw [List.length_append]; omega)
    obtain rfl : na = 1024 := by rw [List.length_append] at hlena; omega
    refine XR_a (op_assign rfl) rfl rfl ?_
    refine XR_nil ?_
    refine X_seq ?_
    refine X_reg ?_
    refine XR_a (op_move rfl) rfl rfl ?_
    first | refine XR_a (op_field0 rfl rfl) rfl rfl ?_ | refine XR_a (op_fieldn rfl rfl) rfl rfl ?_
    first | refine XR_a (op_field0 rfl rfl) rfl rfl ?_ | refine XR_a (op_fieldn rfl rfl) rfl rfl ?_
    refine XR_a (op_ld (st.cell 5 (i := 0) rfl rfl) rfl rfl rfl) rfl rfl ?_
    refine XR_wa (opl_call (splace_spec (a := s.seq) (by have := hs; simp only [Slt.right] at this; simp only [inK]; omega) _) rfl (by kernel_rfl)) rfl rfl rfl ?_
    rintro _ _ ⟨rfl, rfl⟩
    rw [if_pos hpar]
    refine XR_a (op_slice_l (l := 512) rfl rfl rfl (by omega) (by omega)) rfl rfl ?_
    rw [cutA_some (by omega)]
    refine XR_a (op_move rfl) rfl rfl ?_
    refine XR_wa (opl_copy (o := 512) st 0 rfl ((st.rdS 3 rfl).2) (by omega) (one_bytes _) (by rw [List.length_append]; omega) rfl rfl rfl rfl) rfl rfl rfl ?_
    rintro _ hp ⟨rfl, st⟩
    simp only [List.set_cons_zero, List.set_cons_succ] at st
    rw [put_right hz hz hsv] at st
    refine XR_nil ?_
    refine X_seq ?_
    refine X_reg ?_
    refine XR_a (op_move rfl) rfl rfl ?_
    first | refine XR_a (op_field0 rfl rfl) rfl rfl ?_ | refine XR_a (op_fieldn rfl rfl) rfl rfl ?_
    refine XR_a (op_ld (st.cell 2 (i := 0) rfl rfl) rfl rfl rfl) rfl rfl ?_
    refine XR_wa (opl_call (splace_spec (a := n.seq) (by simp only [inK]; omega) _) rfl (by kernel_rfl)) rfl rfl rfl ?_
    rintro _ _ ⟨rfl, rfl⟩
    rw [if_neg (by omega)]
    refine XR_a (op_slice_l (l := 0) rfl rfl rfl (by omega) (by omega)) rfl rfl ?_
    rw [cutA_some (by omega)]
    refine XR_a (op_move rfl) rfl rfl ?_
    refine XR_wa (opl_copy (o := 0) st 0 rfl ((st.rdS 1 rfl).2) (by omega) (one_bytes _) (by rw [List.length_append]; omega) rfl rfl rfl rfl) rfl rfl rfl ?_
    rintro _ hp ⟨rfl, st⟩
    simp only [List.set_cons_zero, List.set_cons_succ] at st
    rw [put_left hz hnv] at st
    rw [← List.map_append] at st
    refine XR_nil ?_
    refine X_seq ?_
    refine X_reg ?_
    refine XR_a (op_move rfl) rfl rfl ?_
    refine XR_wa (opl_call (choose_spec (st.tab 4 rfl) (st.rdS 0 rfl).2 (by rw [List.length_append]; omega) hnca) rfl (by kernel_rfl)) rfl rfl rfl ?_
    rintro _ hp ⟨rfl, hx3⟩
    replace st := st.ext hx3
    rw [choose_second hs hnr (by omega)]
    refine XR_a (op_move rfl) rfl rfl ?_
    refine XR_a (op_extract rfl rfl) rfl rfl ?_
    refine XR_a (op_extract rfl rfl) rfl rfl ?_
    refine XR_wa (opl_new rfl) rfl rfl rfl ?_
    rintro _ hp ⟨p11, rfl, hnew⟩
    replace st := st.new hnew
    refine XR_wn (opl_store_whole (us := sltC n) st 0 rfl rfl rfl rfl rfl (sltC_one _) rfl) rfl rfl fun _ hp st => ?_
    simp only [List.set_cons_zero, List.set_cons_succ] at st
    refine XR_a (op_assign rfl) rfl rfl ?_
    refine XR_nil ?_
    refine X_seq ?_
    refine X_seq ?_
    refine X_reg ?_
    refine XR_a (op_move rfl) rfl rfl ?_
    refine XR_a (op_neq rfl rfl) rfl rfl ?_
    refine XR_as (.bool false) rfl ?_
    refine XR_a (op_move rfl) rfl rfl ?_
    refine XR_a (op_ldA (st.cells 0 rfl) rfl rfl rfl rfl) rfl rfl ?_
    refine XR_a (op_ldA (st.cells 3 rfl) rfl rfl rfl rfl) rfl rfl ?_
    refine XR_a (op_neqH rfl rfl (neq_slt n n) (by kernel_rfl)) rfl rfl ?_
    refine XR_as (.bool false) (by simp) ?_
    refine XR_a (op_pick_f rfl rfl) rfl rfl ?_
    refine XR_nil ?_
    refine X_else rfl ?_
    refine X_skip ?_
    refine X_seq ?_
    refine X_seq ?_
    refine X_reg ?_
    first | refine XR_a (op_field0 rfl rfl) rfl rfl ?_ | refine XR_a (op_fieldn rfl rfl) rfl rfl ?_
    refine XR_a (op_ld (st.cell 6 (i := 6) rfl rfl) rfl rfl rfl) rfl rfl ?_
    refine XR_wa (opl_call (stake_spec (st.tab 5 rfl) (hr.ext st.low) hl (by omega) hmc) rfl (by kernel_rfl)) rfl rfl rfl ?_
    rintro _ hp ⟨rfl, hx3⟩
    replace st := st.ext hx3
    obtain ⟨T, hT⟩ : ∃ T, slotTake l = T := ⟨_, rfl⟩
    rw [hT]
    refine XR_a (op_move rfl) rfl rfl ?_
    refine XR_a (op_extract rfl rfl) rfl rfl ?_
    refine XR_a (op_extract rfl rfl) rfl rfl ?_
    refine XR_wa (opl_new rfl) rfl rfl rfl ?_
    rintro _ hp ⟨p13, rfl, hnew⟩
    replace st := st.new hnew
    refine XR_wn (opl_store_whole (us := sltC T.1) st 0 rfl rfl rfl rfl rfl (sltC_one _) rfl) rfl rfl fun _ hp st => ?_
    simp only [List.set_cons_zero, List.set_cons_succ] at st
    refine XR_a (op_assign rfl) rfl rfl ?_
    refine XR_nil ?_
    refine X_seq ?_
    refine X_reg ?_
    refine XR_a (op_move rfl) rfl rfl ?_
    refine XR_a (op_eql rfl rfl) rfl rfl ?_
    refine XR_nil ?_
    refine X_if rfl (fun h => ?_) (fun h => ?_)
    · refine X_seq ?_
      refine X_reg ?_
      refine XR_wa (opl_call (lives21 _) rfl (by kernel_rfl)) rfl rfl rfl ?_
      rintro _ hp ⟨rfl, hx⟩
      refine XR_a (op_assign rfl) rfl rfl ?_
      refine XR_nil ?_
      refine X_ret (.cons (.tmp rfl) .nil) ?_
      exact ⟨rfl, st.low.trans (hx.mono st.low.size)⟩
    · have hbad : (slotTake l).2 ≠ 0 := by rw [hT]; exact h
      replace st := st.tail.tail
      refine X_skip ?_
      refine X_seq ?_
      refine X_draw_in (butAt [(3, .grow)]) [0, 1, 2, 5, 6, 3, 4, 7] (by kernel_rfl) (by kernel_rfl) rfl ?_
      refine XR_a (op_move rfl) rfl rfl ?_
      first | refine XR_a (op_field0 rfl rfl) rfl rfl ?_ | refine XR_a (op_fieldn rfl rfl) rfl rfl ?_
      refine XR_a (op_ld (st.cell 2 (i := 0) rfl rfl) rfl rfl rfl) rfl rfl ?_
      first | refine XR_a (op_field0 rfl rfl) rfl rfl ?_ | refine XR_a (op_fieldn rfl rfl) rfl rfl ?_
      rw [List.map_append] at st
      refine XR_a (op_ld (st.cell 5 (i := 6) rfl rfl) rfl rfl rfl) rfl rfl ?_
      refine XR_ga (opl_call (splace_spec (a := n.seq) (by simp only [inK]; omega) _) rfl (by kernel_rfl)) rfl rfl rfl (fun _ _ h => h.2 ▸ Low.refl _ _) ?_
      rintro _ _ ⟨rfl, rfl⟩
      rw [if_neg (by omega)]
      refine XR_a (op_slice_l (l := 0) rfl rfl rfl (by omega) (by omega)) rfl rfl ?_
      rw [cutA_some (by omega)]
      refine XR_wa (opl_copy (o := 0) st 0 rfl (hr.ext st.low) (by omega) (one_bytes _) (by rw [List.length_append]; omega) rfl rfl rfl rfl) rfl rfl rfl ?_
      rintro _ hp ⟨rfl, st⟩
      simp only [List.set_cons_zero, List.set_cons_succ] at st
      rw [put_left hnv hlv] at st
      rw [← List.map_append] at st
      refine XR_nil ?_
      refine X_seq ?_
      refine X_reg ?_
      refine XR_a (op_move rfl) rfl rfl ?_
      refine XR_wa (opl_call (choose_spec (st.tab 4 rfl) (st.rdS 0 rfl).2 (by rw [List.length_append]; omega) hnca) rfl (by kernel_rfl)) rfl rfl rfl ?_
      rintro _ hp ⟨rfl, hx3⟩
      replace st := st.ext hx3
      rw [choose_right hs hl hbad]
      refine XR_a (op_move rfl) rfl rfl ?_
      refine XR_a (op_extract rfl rfl) rfl rfl ?_
      refine XR_a (op_extract rfl rfl) rfl rfl ?_
      refine XR_wa (opl_new rfl) rfl rfl rfl ?_
      rintro _ hp ⟨p15, rfl, hnew⟩
      replace st := st.new hnew
      refine XR_wn (opl_store_whole (us := sltC s) st 0 rfl rfl rfl rfl rfl (sltC_one _) rfl) rfl rfl fun _ hp st => ?_
      simp only [List.set_cons_zero, List.set_cons_succ] at st
      refine XR_a (op_assign rfl) rfl rfl ?_
      refine XR_nil ?_
      refine X_seq ?_
      refine X_reg ?_
      refine XR_a (op_move rfl) rfl rfl ?_
      refine XR_a (op_eql rfl rfl) rfl rfl ?_
      refine XR_as (.bool true) rfl ?_
      refine XR_a (op_move rfl) rfl rfl ?_
      refine XR_a (op_ldA (st.cells 0 rfl) rfl rfl rfl rfl) rfl rfl ?_
      first | refine XR_a (op_field0 rfl rfl) rfl rfl ?_ | refine XR_a (op_fieldn rfl rfl) rfl rfl ?_
      refine XR_a (op_ldA (st.part 6 0 [] (sltC s) [.int .i64 e, .int .i64 k, .slice A 512 c] rfl rfl) rfl rfl rfl rfl) rfl rfl ?_
      refine XR_a (op_eqlH rfl rfl (eq_slt s s) (by kernel_rfl)) rfl rfl ?_
      refine XR_as (.bool true) (by simp) ?_
      refine XR_a (op_pick_t rfl rfl) rfl rfl ?_
      refine XR_a (op_move rfl) rfl rfl ?_
      refine XR_wa (opl_call (lives21 _) rfl (by kernel_rfl)) rfl rfl rfl ?_
      rintro _ hp ⟨rfl, hx⟩
      refine XR_a (op_pick_t rfl rfl) rfl rfl ?_
      refine XR_a (op_assign rfl) rfl rfl ?_
      refine XR_nil ?_
      refine X_ret (.cons (.tmp rfl) .nil) ?_
      exact ⟨rfl, st.low.trans (hx.mono st.low.size)⟩

theorem slotLater_dTrue {s : Slt} {e k : Int} {m c : Nat} {A : Option Addr} {l : List UInt8} {h0 : Heap} (hs : s.right) (hr : Rd h0 A (l.map byteV)) (hl : l.length = m) (hmc : m ≤ c) (hpar : s.seq % 2 = 1) (hN1 : nextS s ⟨0, e, k, true⟩ = (Slt.nil, false)) (h1 : (nextS s ⟨0, s.en, 0, false⟩).2 = true) : Ret Try.prog 13 [.agg #[.int .i64 s.seq, .int .i64 s.en, .int .i64 s.dir, .bool s.cl, .int .i64 e, .int .i64 k, .slice A m c]] h0 fun v h' => v = .bool true ∧ Ext h0 h' := by
  obtain ⟨n, hn⟩ : ∃ n, (nextS s ⟨0, s.en, 0, false⟩).1 = n := ⟨_, rfl⟩
  have hnr : n.right ∧ n.seq = s.seq + 1 := by rw [← hn]; exact nextS_true h1
  obtain ⟨hnr, hseq⟩ := hnr
  have h9 := hnr
  simp only [Slt.right] at h9
  have hsl := s.bytes_length
  have hnl := n.bytes_length
  refine ret_of_X Try.func13 rfl rfl fun w0 hw0 => ?_
  simp only [argE, Nat.zero_add, Nat.reduceAdd]
  have st := St.start h0
  refine X_seq ?_
  refine X_reg ?_
  refine XR_wa (opl_bx rfl rfl) rfl rfl rfl ?_
  rintro _ hp ⟨p, rfl, hnew⟩
  have st := st.new hnew
  refine XR_a (op_assign rfl) rfl rfl ?_
  refine XR_nil ?_
  refine X_seq ?_
  refine X_reg ?_
  refine XR_wa (opl_call (make_spec _) rfl (by kernel_rfl)) rfl rfl rfl ?_
  rintro _ hp ⟨rfl, hx⟩
  replace st := st.ext hx
  refine XR_wa (opl_new (zs := List.replicate 256 (.int .u32 0)) (by kernel_rfl)) rfl rfl rfl ?_
  rintro _ hp ⟨tp, rfl, hnew⟩
  replace st := st.new hnew
  refine XR_wn (opl_store_whole st 0 rfl rfl rfl rfl (by rw [tabV_length]; rfl) tabV_one (by rw [tabV_length, List.length_replicate])) rfl rfl fun _ hp st => ?_
  simp only [List.set_cons_zero, List.set_cons_succ] at st
  refine XR_nil ?_
  refine X_seq ?_
  refine X_reg ?_
  first | refine XR_a (op_field0 rfl rfl) rfl rfl ?_ | refine XR_a (op_fieldn rfl rfl) rfl rfl ?_
  refine XR_a (op_ldA (st.part 1 0 [] (sltC s) [.int .i64 e, .int .i64 k, .slice A m c] rfl rfl) rfl rfl rfl rfl) rfl rfl ?_
  refine XR_wa (opl_call (sput_ok' (st.tab 0 rfl) hs) rfl (by kernel_rfl)) rfl rfl rfl ?_
  rintro _ hp ⟨v1, rfl, st2⟩
  replace st := st.join st2
  simp only [List.cons_append, List.nil_append] at st
  obtain ⟨A1, n1, c1, rfl, hlen1, hnc1, _, hrd1⟩ := st.row 0 rfl
  obtain rfl : n1 = 512 := by rw [List.length_map, hsl] at hlen1; omega
  refine XR_a (op_move rfl) rfl rfl ?_
  refine XR_a (op_extract rfl rfl) rfl rfl ?_
  refine XR_a (op_extract rfl rfl) rfl rfl ?_
  refine XR_a (op_assign rfl) rfl rfl ?_
  refine XR_a (op_assign rfl) rfl rfl ?_
  refine XR_nil ?_
  refine X_seq ?_
  refine X_reg ?_
  first | refine XR_a (op_field0 rfl rfl) rfl rfl ?_ | refine XR_a (op_fieldn rfl rfl) rfl rfl ?_
  refine XR_a (op_ldA (st.part 2 0 [] (sltC s) [.int .i64 e, .int .i64 k, .slice A m c] rfl rfl) rfl rfl rfl rfl) rfl rfl ?_
  first | refine XR_a (op_field0 rfl rfl) rfl rfl ?_ | refine XR_a (op_fieldn rfl rfl) rfl rfl ?_
  refine XR_a (op_ld (st.cell 2 (i := 4) rfl rfl) rfl rfl rfl) rfl rfl ?_
  first | refine XR_a (op_field0 rfl rfl) rfl rfl ?_ | refine XR_a (op_fieldn rfl rfl) rfl rfl ?_
  refine XR_a (op_ld (st.cell 2 (i := 5) rfl rfl) rfl rfl rfl) rfl rfl ?_
  refine XR_wa (opl_call (sclean_spec' s e k _) rfl (by kernel_rfl)) rfl rfl rfl ?_
  rintro _ hp ⟨rfl, hx2⟩
  replace st := st.ext hx2
  rw [hN1]
  refine XR_a (op_move rfl) rfl rfl ?_
  refine XR_a (op_extract rfl rfl) rfl rfl ?_
  refine XR_a (op_extract rfl rfl) rfl rfl ?_
  refine XR_wa (opl_new rfl) rfl rfl rfl ?_
  rintro _ hp ⟨p6, rfl, hnew⟩
  replace st := st.new hnew
  refine XR_wn (opl_store_whole (us := sltC Slt.nil) st 0 rfl rfl rfl rfl rfl (sltC_one _) rfl) rfl rfl fun _ hp st => ?_
  simp only [List.set_cons_zero, List.set_cons_succ] at st
  refine XR_a (op_assign rfl) rfl rfl ?_
  refine XR_nil ?_
  refine X_seq ?_
  refine X_seq ?_
  refine X_reg ?_
  refine XR_a (op_move rfl) rfl rfl ?_
  first | refine XR_a (op_notd rfl) rfl rfl ?_ | refine XR_a (op_not rfl) rfl rfl ?_
  refine XR_nil ?_
  refine X_then rfl ?_
  refine X_reg ?_
  first | refine XR_a (op_field0 rfl rfl) rfl rfl ?_ | refine XR_a (op_fieldn rfl rfl) rfl rfl ?_
  refine XR_a (op_ldA (st.part 3 0 [] (sltC s) [.int .i64 e, .int .i64 k, .slice A m c] rfl rfl) rfl rfl rfl rfl) rfl rfl ?_
  refine XR_wa (opl_call (sdirty_spec' s _) rfl (by kernel_rfl)) rfl rfl rfl ?_
  rintro _ hp ⟨rfl, hx2⟩
  replace st := st.ext hx2
  rw [h1, hn]
  refine XR_a (op_move rfl) rfl rfl ?_
  refine XR_a (op_extract rfl rfl) rfl rfl ?_
  refine XR_a (op_extract rfl rfl) rfl rfl ?_
  refine XR_wn (opl_store_whole (us := sltC n) st 0 rfl rfl rfl rfl rfl (sltC_one _) rfl) rfl rfl fun _ hp st => ?_
  simp only [List.set_cons_zero, List.set_cons_succ] at st
  refine XR_a (op_assign rfl) rfl rfl ?_
  refine XR_nil ?_
  refine X_seq ?_
  refine X_reg ?_
  refine XR_a (op_ldA (st.cells 0 rfl) rfl rfl rfl rfl) rfl rfl ?_
  refine XR_wa (opl_call (sput_ok' (st.tab 2 rfl) hnr) rfl (by kernel_rfl)) rfl rfl rfl ?_
  rintro _ hp ⟨v2, rfl, st2⟩
  replace st := st.join st2
  simp only [List.cons_append, List.nil_append] at st
  obtain ⟨A2, n2, c2, rfl, hlen2, hnc2, _, hrd2⟩ := st.row 0 rfl
  obtain rfl : n2 = 512 := by rw [List.length_map, hnl] at hlen2; omega
  refine XR_a (op_move rfl) rfl rfl ?_
  refine XR_a (op_extract rfl rfl) rfl rfl ?_
  refine XR_a (op_extract rfl rfl) rfl rfl ?_
  refine XR_a (op_assign rfl) rfl rfl ?_
  refine XR_a (op_assign rfl) rfl rfl ?_
  refine XR_nil ?_
  refine X_seq ?_
  refine X_seq ?_
  refine X_reg ?_
  refine XR_a (op_move rfl) rfl rfl ?_
  refine XR_a (op_neq rfl rfl) rfl rfl ?_
  refine XR_as (.bool false) rfl ?_
  refine XR_a (op_move rfl) rfl rfl ?_
  refine XR_a (op_move rfl) rfl rfl ?_
  first | refine XR_a (op_notd rfl) rfl rfl ?_ | refine XR_a (op_not rfl) rfl rfl ?_
  refine XR_a (op_pick_f rfl rfl) rfl rfl ?_
  refine XR_a (op_move rfl) rfl rfl ?_
  refine XR_a (op_move rfl) rfl rfl ?_
  refine XR_a (op_neq rfl rfl) rfl rfl ?_
  refine XR_as (.bool false) rfl ?_
  refine XR_a (op_pick_f rfl rfl) rfl rfl ?_
  refine XR_a (op_move rfl) rfl rfl ?_
  first | refine XR_a (op_field0 rfl rfl) rfl rfl ?_ | refine XR_a (op_fieldn rfl rfl) rfl rfl ?_
  refine XR_a (op_ld (st.cell 4 (i := 6) rfl rfl) rfl rfl rfl) rfl rfl ?_
  refine XR_a (op_len rfl rfl rfl) rfl rfl ?_
  refine XR_a (op_neq rfl rfl) rfl rfl ?_
  refine XR_a (op_pick_f rfl rfl) rfl rfl ?_
  refine XR_nil ?_
  refine X_if rfl (fun h => ?_) (fun h => ?_)
  · refine X_seq ?_
    refine X_reg ?_
    refine XR_wa (opl_call (lives21 _) rfl (by kernel_rfl)) rfl rfl rfl ?_
    rintro _ hp ⟨rfl, hx⟩
    refine XR_a (op_assign rfl) rfl rfl ?_
    refine XR_nil ?_
    refine X_ret (.cons (.tmp rfl) .nil) ?_
    exact ⟨rfl, st.low.trans (hx.mono st.low.size)⟩
  · refine X_skip ?_
    refine X_seq ?_
    refine X_reg ?_
    obtain rfl : m = 512 := by omega
    refine XR_wa (opl_mk (n := 1024) (by omega) rfl rfl rfl) rfl rfl rfl ?_
    rintro v hp hnew
    replace st := st.new hnew
    rw [show List.replicate 1024 (Value.int .u8 0) = Z512.map byteV ++ Z512.map byteV by
      unfold Z512; rw [List.map_replicate, List.replicate_append_replicate]; rfl] at st
    have hz : (Z512.map byteV).length = 512 := by rw [List.length_map, Z512_length]
    have hsv : (s.bytes.map byteV).length = 512 := by rw [List.length_map, hsl]
    have hnv : (n.bytes.map byteV).length = 512 := by rw [List.length_map, hnl]
    have hlv : (l.map byteV).length = 512 := by rw [List.length_map, hl]
    generalize Z512.map byteV = zz at *
    obtain ⟨ga, na, ca, rfl, hlena, hnca, _, hrda⟩ := st.row0 0 rfl (by rw [List.length_append]; omega)
    obtain rfl : na = 1024 := by rw [List.length_append] at hlena; omega
    refine XR_a (op_assign rfl) rfl rfl ?_
    refine XR_nil ?_
    refine X_seq ?_
    refine X_reg ?_
    refine XR_a (op_move rfl) rfl rfl ?_
    first | refine XR_a (op_field0 rfl rfl) rfl rfl ?_ | refine XR_a (op_fieldn rfl rfl) rfl rfl ?_
    first | refine XR_a (op_field0 rfl rfl) rfl rfl ?_ | refine XR_a (op_fieldn rfl rfl) rfl rfl ?_
    refine XR_a (op_ld (st.cell 5 (i := 0) rfl rfl) rfl rfl rfl) rfl rfl ?_
    refine XR_wa (opl_call (splace_spec (a := s.seq) (by have := hs; simp only [Slt.right] at this; simp only [inK]; omega) _) rfl (by kernel_rfl)) rfl rfl rfl ?_
    rintro _ _ ⟨rfl, rfl⟩
    rw [if_pos hpar]
    refine XR_a (op_slice_l (l := 512) rfl rfl rfl (by omega) (by omega)) rfl rfl ?_
    rw [cutA_some (by omega)]
    refine XR_a (op_move rfl) rfl rfl ?_
    refine XR_wa (opl_copy (o := 512) st 0 rfl ((st.rdS 3 rfl).2) (by omega) (one_bytes _) (by rw [List.length_append]; omega) rfl rfl rfl rfl) rfl rfl rfl ?_
    rintro _ hp ⟨rfl, st⟩
    simp only [List.set_cons_zero, List.set_cons_succ] at st
    rw [put_right hz hz hsv] at st
    refine XR_nil ?_
    refine X_seq ?_
    refine X_reg ?_
    refine XR_a (op_move rfl) rfl rfl ?_
    first | refine XR_a (op_field0 rfl rfl) rfl rfl ?_ | refine XR_a (op_fieldn rfl rfl) rfl rfl ?_
    refine XR_a (op_ld (st.cell 2 (i := 0) rfl rfl) rfl rfl rfl) rfl rfl ?_
    refine XR_wa (opl_call (splace_spec (a := n.seq) (by simp only [inK]; omega) _) rfl (by kernel_rfl)) rfl rfl rfl ?_
    rintro _ _ ⟨rfl, rfl⟩
    rw [if_neg (by omega)]
    refine XR_a (op_slice_l (l := 0) rfl rfl rfl (by omega) (by omega)) rfl rfl ?_
    rw [cutA_some (by omega)]
    refine XR_a (op_move rfl) rfl rfl ?_
    refine XR_wa (opl_copy (o := 0) st 0 rfl ((st.rdS 1 rfl).2) (by omega) (one_bytes _) (by rw [List.length_append]; omega) rfl rfl rfl rfl) rfl rfl rfl ?_
    rintro _ hp ⟨rfl, st⟩
    simp only [List.set_cons_zero, List.set_cons_succ] at st
    rw [put_left hz hnv] at st
    rw [← List.map_append] at st
    refine XR_nil ?_
    refine X_seq ?_
    refine X_reg ?_
    refine XR_a (op_move rfl) rfl rfl ?_
    refine XR_wa (opl_call (choose_spec (st.tab 4 rfl) (st.rdS 0 rfl).2 (by rw [List.length_append]; omega) hnca) rfl (by kernel_rfl)) rfl rfl rfl ?_
    rintro _ hp ⟨rfl, hx3⟩
    replace st := st.ext hx3
    rw [choose_second hs hnr (by omega)]
    refine XR_a (op_move rfl) rfl rfl ?_
    refine XR_a (op_extract rfl rfl) rfl rfl ?_
    refine XR_a (op_extract rfl rfl) rfl rfl ?_
    refine XR_wa (opl_new rfl) rfl rfl rfl ?_
    rintro _ hp ⟨p11, rfl, hnew⟩
    replace st := st.new hnew
    refine XR_wn (opl_store_whole (us := sltC n) st 0 rfl rfl rfl rfl rfl (sltC_one _) rfl) rfl rfl fun _ hp st => ?_
    simp only [List.set_cons_zero, List.set_cons_succ] at st
    refine XR_a (op_assign rfl) rfl rfl ?_
    refine XR_nil ?_
    refine X_seq ?_
    refine X_seq ?_
    refine X_reg ?_
    refine XR_a (op_move rfl) rfl rfl ?_
    refine XR_a (op_neq rfl rfl) rfl rfl ?_
    refine XR_as (.bool false) rfl ?_
    refine XR_a (op_move rfl) rfl rfl ?_
    refine XR_a (op_ldA (st.cells 0 rfl) rfl rfl rfl rfl) rfl rfl ?_
    refine XR_a (op_ldA (st.cells 3 rfl) rfl rfl rfl rfl) rfl rfl ?_
    refine XR_a (op_neqH rfl rfl (neq_slt n n) (by kernel_rfl)) rfl rfl ?_
    refine XR_as (.bool false) (by simp) ?_
    refine XR_a (op_pick_f rfl rfl) rfl rfl ?_
    refine XR_nil ?_
    refine X_else rfl ?_
    refine X_skip ?_
    refine X_seq ?_
    refine X_seq ?_
    refine X_reg ?_
    first | refine XR_a (op_field0 rfl rfl) rfl rfl ?_ | refine XR_a (op_fieldn rfl rfl) rfl rfl ?_
    refine XR_a (op_ld (st.cell 6 (i := 6) rfl rfl) rfl rfl rfl) rfl rfl ?_
    refine XR_wa (opl_call (stake_spec (st.tab 5 rfl) (hr.ext st.low) hl (by omega) hmc) rfl (by kernel_rfl)) rfl rfl rfl ?_
    rintro _ hp ⟨rfl, hx3⟩
    replace st := st.ext hx3
    obtain ⟨T, hT⟩ : ∃ T, slotTake l = T := ⟨_, rfl⟩
    rw [hT]
    refine XR_a (op_move rfl) rfl rfl ?_
    refine XR_a (op_extract rfl rfl) rfl rfl ?_
    refine XR_a (op_extract rfl rfl) rfl rfl ?_
    refine XR_wa (opl_new rfl) rfl rfl rfl ?_
    rintro _ hp ⟨p13, rfl, hnew⟩
    replace st := st.new hnew
    refine XR_wn (opl_store_whole (us := sltC T.1) st 0 rfl rfl rfl rfl rfl (sltC_one _) rfl) rfl rfl fun _ hp st => ?_
    simp only [List.set_cons_zero, List.set_cons_succ] at st
    refine XR_a (op_assign rfl) rfl rfl ?_
    refine XR_nil ?_
    refine X_seq ?_
    refine X_reg ?_
    refine XR_a (op_move rfl) rfl rfl ?_
    refine XR_a (op_eql rfl rfl) rfl rfl ?_
    refine XR_nil ?_
    refine X_if rfl (fun h => ?_) (fun h => ?_)
    · refine X_seq ?_
      refine X_reg ?_
      refine XR_wa (opl_call (lives21 _) rfl (by kernel_rfl)) rfl rfl rfl ?_
      rintro _ hp ⟨rfl, hx⟩
      refine XR_a (op_assign rfl) rfl rfl ?_
      refine XR_nil ?_
      refine X_ret (.cons (.tmp rfl) .nil) ?_
      exact ⟨rfl, st.low.trans (hx.mono st.low.size)⟩
    · have hbad : (slotTake l).2 ≠ 0 := by rw [hT]; exact h
      replace st := st.tail.tail
      refine X_skip ?_
      refine X_seq ?_
      refine X_draw_in (butAt [(3, .grow)]) [0, 1, 2, 5, 6, 3, 4, 7] (by kernel_rfl) (by kernel_rfl) rfl ?_
      refine XR_a (op_move rfl) rfl rfl ?_
      first | refine XR_a (op_field0 rfl rfl) rfl rfl ?_ | refine XR_a (op_fieldn rfl rfl) rfl rfl ?_
      refine XR_a (op_ld (st.cell 2 (i := 0) rfl rfl) rfl rfl rfl) rfl rfl ?_
      first | refine XR_a (op_field0 rfl rfl) rfl rfl ?_ | refine XR_a (op_fieldn rfl rfl) rfl rfl ?_
      rw [List.map_append] at st
      refine XR_a (op_ld (st.cell 5 (i := 6) rfl rfl) rfl rfl rfl) rfl rfl ?_
      refine XR_ga (opl_call (splace_spec (a := n.seq) (by simp only [inK]; omega) _) rfl (by kernel_rfl)) rfl rfl rfl (fun _ _ h => h.2 ▸ Low.refl _ _) ?_
      rintro _ _ ⟨rfl, rfl⟩
      rw [if_neg (by omega)]
      refine XR_a (op_slice_l (l := 0) rfl rfl rfl (by omega) (by omega)) rfl rfl ?_
      rw [cutA_some (by omega)]
      refine XR_wa (opl_copy (o := 0) st 0 rfl (hr.ext st.low) (by omega) (one_bytes _) (by rw [List.length_append]; omega) rfl rfl rfl rfl) rfl rfl rfl ?_
      rintro _ hp ⟨rfl, st⟩
      simp only [List.set_cons_zero, List.set_cons_succ] at st
      rw [put_left hnv hlv] at st
      rw [← List.map_append] at st
      refine XR_nil ?_
      refine X_seq ?_
      refine X_reg ?_
      refine XR_a (op_move rfl) rfl rfl ?_
      refine XR_wa (opl_call (choose_spec (st.tab 4 rfl) (st.rdS 0 rfl).2 (by rw [List.length_append]; omega) hnca) rfl (by kernel_rfl)) rfl rfl rfl ?_
      rintro _ hp ⟨rfl, hx3⟩
      replace st := st.ext hx3
      rw [choose_right hs hl hbad]
      refine XR_a (op_move rfl) rfl rfl ?_
      refine XR_a (op_extract rfl rfl) rfl rfl ?_
      refine XR_a (op_extract rfl rfl) rfl rfl ?_
      refine XR_wa (opl_new rfl) rfl rfl rfl ?_
      rintro _ hp ⟨p15, rfl, hnew⟩
      replace st := st.new hnew
      refine XR_wn (opl_store_whole (us := sltC s) st 0 rfl rfl rfl rfl rfl (sltC_one _) rfl) rfl rfl fun _ hp st => ?_
      simp only [List.set_cons_zero, List.set_cons_succ] at st
      refine XR_a (op_assign rfl) rfl rfl ?_
      refine XR_nil ?_
      refine X_seq ?_
      refine X_reg ?_
      refine XR_a (op_move rfl) rfl rfl ?_
      refine XR_a (op_eql rfl rfl) rfl rfl ?_
      refine XR_as (.bool true) rfl ?_
      refine XR_a (op_move rfl) rfl rfl ?_
      refine XR_a (op_ldA (st.cells 0 rfl) rfl rfl rfl rfl) rfl rfl ?_
      first | refine XR_a (op_field0 rfl rfl) rfl rfl ?_ | refine XR_a (op_fieldn rfl rfl) rfl rfl ?_
      refine XR_a (op_ldA (st.part 6 0 [] (sltC s) [.int .i64 e, .int .i64 k, .slice A 512 c] rfl rfl) rfl rfl rfl rfl) rfl rfl ?_
      refine XR_a (op_eqlH rfl rfl (eq_slt s s) (by kernel_rfl)) rfl rfl ?_
      refine XR_as (.bool true) (by simp) ?_
      refine XR_a (op_pick_t rfl rfl) rfl rfl ?_
      refine XR_a (op_move rfl) rfl rfl ?_
      refine XR_wa (opl_call (lives21 _) rfl (by kernel_rfl)) rfl rfl rfl ?_
      rintro _ hp ⟨rfl, hx⟩
      refine XR_a (op_pick_t rfl rfl) rfl rfl ?_
      refine XR_a (op_assign rfl) rfl rfl ?_
      refine XR_nil ?_
      refine X_ret (.cons (.tmp rfl) .nil) ?_
      exact ⟨rfl, st.low.trans (hx.mono st.low.size)⟩

theorem slotLater_cFalse {s : Slt} {e k : Int} {m c : Nat} {A : Option Addr} {l : List UInt8} {h0 : Heap} (hs : s.right) (hr : Rd h0 A (l.map byteV)) (hl : l.length = m) (hmc : m ≤ c) (hpar : s.seq % 2 = 0) (h1 : (nextS s ⟨0, e, k, true⟩).2 = true) : Ret Try.prog 13 [.agg #[.int .i64 s.seq, .int .i64 s.en, .int .i64 s.dir, .bool s.cl, .int .i64 e, .int .i64 k, .slice A m c]] h0 fun v h' => v = .bool true ∧ Ext h0 h' := by
  obtain ⟨n, hn⟩ : ∃ n, (nextS s ⟨0, e, k, true⟩).1 = n := ⟨_, rfl⟩
  have hnr : n.right ∧ n.seq = s.seq + 1 := by rw [← hn]; exact nextS_true h1
  obtain ⟨hnr, hseq⟩ := hnr
  have h9 := hnr
  simp only [Slt.right] at h9
  have hsl := s.bytes_length
  have hnl := n.bytes_length
  refine ret_of_X Try.func13 rfl rfl fun w0 hw0 => ?_
  simp only [argE, Nat.zero_add, Nat.reduceAdd]
  have st := St.start h0
  refine X_seq ?_
  refine X_reg ?_
  refine XR_wa (opl_bx rfl rfl) rfl rfl rfl ?_
  rintro _ hp ⟨p, rfl, hnew⟩
  have st := st.new hnew
  refine XR_a (op_assign rfl) rfl rfl ?_
  refine XR_nil ?_
  refine X_seq ?_
  refine X_reg ?_
  refine XR_wa (opl_call (make_spec _) rfl (by kernel_rfl)) rfl rfl rfl ?_
  rintro _ hp ⟨rfl, hx⟩
  replace st := st.ext hx
  refine XR_wa (opl_new (zs := List.replicate 256 (.int .u32 0)) (by kernel_rfl)) rfl rfl rfl ?_
  rintro _ hp ⟨tp, rfl, hnew⟩
  replace st := st.new hnew
  refine XR_wn (opl_store_whole st 0 rfl rfl rfl rfl (by rw [tabV_length]; rfl) tabV_one (by rw [tabV_length, List.length_replicate])) rfl rfl fun _ hp st => ?_
  simp only [List.set_cons_zero, List.set_cons_succ] at st
  refine XR_nil ?_
  refine X_seq ?_
  refine X_reg ?_
  first | refine XR_a (op_field0 rfl rfl) rfl rfl ?_ | refine XR_a (op_fieldn rfl rfl) rfl rfl ?_
  refine XR_a (op_ldA (st.part 1 0 [] (sltC s) [.int .i64 e, .int .i64 k, .slice A m c] rfl rfl) rfl rfl rfl rfl) rfl rfl ?_
  refine XR_wa (opl_call (sput_ok' (st.tab 0 rfl) hs) rfl (by kernel_rfl)) rfl rfl rfl ?_
  rintro _ hp ⟨v1, rfl, st2⟩
  replace st := st.join st2
  simp only [List.cons_append, List.nil_append] at st
  obtain ⟨A1, n1, c1, rfl, hlen1, hnc1, _, hrd1⟩ := st.row 0 rfl
  obtain rfl : n1 = 512 := by rw [List.length_map, hsl] at hlen1; omega
  refine XR_a (op_move rfl) rfl rfl ?_
  refine XR_a (op_extract rfl rfl) rfl rfl ?_
  refine XR_a (op_extract rfl rfl) rfl rfl ?_
  refine XR_a (op_assign rfl) rfl rfl ?_
  refine XR_a (op_assign rfl) rfl rfl ?_
  refine XR_nil ?_
  refine X_seq ?_
  refine X_reg ?_
  first | refine XR_a (op_field0 rfl rfl) rfl rfl ?_ | refine XR_a (op_fieldn rfl rfl) rfl rfl ?_
  refine XR_a (op_ldA (st.part 2 0 [] (sltC s) [.int .i64 e, .int .i64 k, .slice A m c] rfl rfl) rfl rfl rfl rfl) rfl rfl ?_
  first | refine XR_a (op_field0 rfl rfl) rfl rfl ?_ | refine XR_a (op_fieldn rfl rfl) rfl rfl ?_
  refine XR_a (op_ld (st.cell 2 (i := 4) rfl rfl) rfl rfl rfl) rfl rfl ?_
  first | refine XR_a (op_field0 rfl rfl) rfl rfl ?_ | refine XR_a (op_fieldn rfl rfl) rfl rfl ?_
  refine XR_a (op_ld (st.cell 2 (i := 5) rfl rfl) rfl rfl rfl) rfl rfl ?_
  refine XR_wa (opl_call (sclean_spec' s e k _) rfl (by kernel_rfl)) rfl rfl rfl ?_
  rintro _ hp ⟨rfl, hx2⟩
  replace st := st.ext hx2
  rw [h1, hn]
  refine XR_a (op_move rfl) rfl rfl ?_
  refine XR_a (op_extract rfl rfl) rfl rfl ?_
  refine XR_a (op_extract rfl rfl) rfl rfl ?_
  refine XR_wa (opl_new rfl) rfl rfl rfl ?_
  rintro _ hp ⟨p6, rfl, hnew⟩
  replace st := st.new hnew
  refine XR_wn (opl_store_whole (us := sltC n) st 0 rfl rfl rfl rfl rfl (sltC_one _) rfl) rfl rfl fun _ hp st => ?_
  simp only [List.set_cons_zero, List.set_cons_succ] at st
  refine XR_a (op_assign rfl) rfl rfl ?_
  refine XR_nil ?_
  refine X_seq ?_
  refine X_seq ?_
  refine X_reg ?_
  refine XR_a (op_move rfl) rfl rfl ?_
  first | refine XR_a (op_notd rfl) rfl rfl ?_ | refine XR_a (op_not rfl) rfl rfl ?_
  refine XR_nil ?_
  refine X_else rfl ?_
  refine X_skip ?_
  refine X_seq ?_
  refine X_reg ?_
  refine XR_a (op_ldA (st.cells 0 rfl) rfl rfl rfl rfl) rfl rfl ?_
  refine XR_wa (opl_call (sput_ok' (st.tab 2 rfl) hnr) rfl (by kernel_rfl)) rfl rfl rfl ?_
  rintro _ hp ⟨v2, rfl, st2⟩
  replace st := st.join st2
  simp only [List.cons_append, List.nil_append] at st
  obtain ⟨A2, n2, c2, rfl, hlen2, hnc2, _, hrd2⟩ := st.row 0 rfl
  obtain rfl : n2 = 512 := by rw [List.length_map, hnl] at hlen2; omega
  refine XR_a (op_move rfl) rfl rfl ?_
  refine XR_a (op_extract rfl rfl) rfl rfl ?_
  refine XR_a (op_extract rfl rfl) rfl rfl ?_
  refine XR_a (op_assign rfl) rfl rfl ?_
  refine XR_a (op_assign rfl) rfl rfl ?_
  refine XR_nil ?_
  refine X_seq ?_
  refine X_seq ?_
  refine X_reg ?_
  refine XR_a (op_move rfl) rfl rfl ?_
  refine XR_a (op_neq rfl rfl) rfl rfl ?_
  refine XR_as (.bool false) rfl ?_
  refine XR_a (op_move rfl) rfl rfl ?_
  refine XR_a (op_move rfl) rfl rfl ?_
  first | refine XR_a (op_notd rfl) rfl rfl ?_ | refine XR_a (op_not rfl) rfl rfl ?_
  refine XR_a (op_pick_f rfl rfl) rfl rfl ?_
  refine XR_a (op_move rfl) rfl rfl ?_
  refine XR_a (op_move rfl) rfl rfl ?_
  refine XR_a (op_neq rfl rfl) rfl rfl ?_
  refine XR_as (.bool false) rfl ?_
  refine XR_a (op_pick_f rfl rfl) rfl rfl ?_
  refine XR_a (op_move rfl) rfl rfl ?_
  first | refine XR_a (op_field0 rfl rfl) rfl rfl ?_ | refine XR_a (op_fieldn rfl rfl) rfl rfl ?_
  refine XR_a (op_ld (st.cell 4 (i := 6) rfl rfl) rfl rfl rfl) rfl rfl ?_
  refine XR_a (op_len rfl rfl rfl) rfl rfl ?_
  refine XR_a (op_neq rfl rfl) rfl rfl ?_
  refine XR_a (op_pick_f rfl rfl) rfl rfl ?_
  refine XR_nil ?_
  refine X_if rfl (fun h => ?_) (fun h => ?_)
  · refine X_seq ?_
    refine X_reg ?_
    refine XR_wa (opl_call (lives21 _) rfl (by kernel_rfl)) rfl rfl rfl ?_
    rintro _ hp ⟨rfl, hx⟩
    refine XR_a (op_assign rfl) rfl rfl ?_
    refine XR_nil ?_
    refine X_ret (.cons (.tmp rfl) .nil) ?_
    exact ⟨rfl, st.low.trans (hx.mono st.low.size)⟩
  · refine X_skip ?_
    refine X_seq ?_
    refine X_reg ?_
    obtain rfl : m = 512 := by omega
    refine XR_wa (opl_mk (n := 1024) (by omega) rfl rfl rfl) rfl rfl rfl ?_
    rintro v hp hnew
    replace st := st.new hnew
    rw [show List.replicate 1024 (Value.int .u8 0) = Z512.map byteV ++ Z512.map byteV by
      unfold Z512; rw [List.map_replicate, List.replicate_append_replicate]; rfl] at st
    have hz : (Z512.map byteV).length = 512 := by rw [List.length_map, Z512_length]
    have hsv : (s.bytes.map byteV).length = 512 := by rw [List.length_map, hsl]
    have hnv : (n.bytes.map byteV).length = 512 := by rw [List.length_map, hnl]
    have hlv : (l.map byteV).length = 512 := by rw [List.length_map, hl]
    generalize Z512.map byteV = zz at *
    obtain ⟨ga, na, ca, rfl, hlena, hnca, _, hrda⟩ := st.row0 0 rfl (by rw [List.length_append]; omega)
    obtain rfl : na = 1024 := by rw [List.length_append] at hlena; omega
    refine XR_a (op_assign rfl) rfl rfl ?_
    refine XR_nil ?_
    refine X_seq ?_
    refine X_reg ?_
    refine XR_a (op_move rfl) rfl rfl ?_
    first | refine XR_a (op_field0 rfl rfl) rfl rfl ?_ | refine XR_a (op_fieldn rfl rfl) rfl rfl ?_
    first | refine XR_a (op_field0 rfl rfl) rfl rfl ?_ | refine XR_a (op_fieldn rfl rfl) rfl rfl ?_
    refine XR_a (op_ld (st.cell 5 (i := 0) rfl rfl) rfl rfl rfl) rfl rfl ?_
    refine XR_wa (opl_call (splace_spec (a := s.seq) (by have := hs; simp only [Slt.right] at this; simp only [inK]; omega) _) rfl (by kernel_rfl)) rfl rfl rfl ?_
    rintro _ _ ⟨rfl, rfl⟩
    rw [if_neg (by omega)]
    refine XR_a (op_slice_l (l := 0) rfl rfl rfl (by omega) (by omega)) rfl rfl ?_
    rw [cutA_some (by omega)]
    refine XR_a (op_move rfl) rfl rfl ?_
    refine XR_wa (opl_copy (o := 0) st 0 rfl ((st.rdS 3 rfl).2) (by omega) (one_bytes _) (by rw [List.length_append]; omega) rfl rfl rfl rfl) rfl rfl rfl ?_
    rintro _ hp ⟨rfl, st⟩
    simp only [List.set_cons_zero, List.set_cons_succ] at st
    rw [put_left hz hsv] at st
    refine XR_nil ?_
    refine X_seq ?_
    refine X_reg ?_
    refine XR_a (op_move rfl) rfl rfl ?_
    first | refine XR_a (op_field0 rfl rfl) rfl rfl ?_ | refine XR_a (op_fieldn rfl rfl) rfl rfl ?_
    refine XR_a (op_ld (st.cell 2 (i := 0) rfl rfl) rfl rfl rfl) rfl rfl ?_
    refine XR_wa (opl_call (splace_spec (a := n.seq) (by simp only [inK]; omega) _) rfl (by kernel_rfl)) rfl rfl rfl ?_
    rintro _ _ ⟨rfl, rfl⟩
    rw [if_pos (by omega)]
    refine XR_a (op_slice_l (l := 512) rfl rfl rfl (by omega) (by omega)) rfl rfl ?_
    rw [cutA_some (by omega)]
    refine XR_a (op_move rfl) rfl rfl ?_
    refine XR_wa (opl_copy (o := 512) st 0 rfl ((st.rdS 1 rfl).2) (by omega) (one_bytes _) (by rw [List.length_append]; omega) rfl rfl rfl rfl) rfl rfl rfl ?_
    rintro _ hp ⟨rfl, st⟩
    simp only [List.set_cons_zero, List.set_cons_succ] at st
    rw [put_right hsv hz hnv] at st
    rw [← List.map_append] at st
    refine XR_nil ?_
    refine X_seq ?_
    refine X_reg ?_
    refine XR_a (op_move rfl) rfl rfl ?_
    refine XR_wa (opl_call (choose_spec (st.tab 4 rfl) (st.rdS 0 rfl).2 (by rw [List.length_append]; omega) hnca) rfl (by kernel_rfl)) rfl rfl rfl ?_
    rintro _ hp ⟨rfl, hx3⟩
    replace st := st.ext hx3
    rw [choose_first hs hnr (by omega)]
    refine XR_a (op_move rfl) rfl rfl ?_
    refine XR_a (op_extract rfl rfl) rfl rfl ?_
    refine XR_a (op_extract rfl rfl) rfl rfl ?_
    refine XR_wa (opl_new rfl) rfl rfl rfl ?_
    rintro _ hp ⟨p11, rfl, hnew⟩
    replace st := st.new hnew
    refine XR_wn (opl_store_whole (us := sltC n) st 0 rfl rfl rfl rfl rfl (sltC_one _) rfl) rfl rfl fun _ hp st => ?_
    simp only [List.set_cons_zero, List.set_cons_succ] at st
    refine XR_a (op_assign rfl) rfl rfl ?_
    refine XR_nil ?_
    refine X_seq ?_
    refine X_seq ?_
    refine X_reg ?_
    refine XR_a (op_move rfl) rfl rfl ?_
    refine XR_a (op_neq rfl rfl) rfl rfl ?_
    refine XR_as (.bool false) rfl ?_
    refine XR_a (op_move rfl) rfl rfl ?_
    refine XR_a (op_ldA (st.cells 0 rfl) rfl rfl rfl rfl) rfl rfl ?_
    refine XR_a (op_ldA (st.cells 3 rfl) rfl rfl rfl rfl) rfl rfl ?_
    refine XR_a (op_neqH rfl rfl (neq_slt n n) (by kernel_rfl)) rfl rfl ?_
    refine XR_as (.bool false) (by simp) ?_
    refine XR_a (op_pick_f rfl rfl) rfl rfl ?_
    refine XR_nil ?_
    refine X_else rfl ?_
    refine X_skip ?_
    refine X_seq ?_
    refine X_seq ?_
    refine X_reg ?_
    first | refine XR_a (op_field0 rfl rfl) rfl rfl ?_ | refine XR_a (op_fieldn rfl rfl) rfl rfl ?_
    refine XR_a (op_ld (st.cell 6 (i := 6) rfl rfl) rfl rfl rfl) rfl rfl ?_
    refine XR_wa (opl_call (stake_spec (st.tab 5 rfl) (hr.ext st.low) hl (by omega) hmc) rfl (by kernel_rfl)) rfl rfl rfl ?_
    rintro _ hp ⟨rfl, hx3⟩
    replace st := st.ext hx3
    obtain ⟨T, hT⟩ : ∃ T, slotTake l = T := ⟨_, rfl⟩
    rw [hT]
    refine XR_a (op_move rfl) rfl rfl ?_
    refine XR_a (op_extract rfl rfl) rfl rfl ?_
    refine XR_a (op_extract rfl rfl) rfl rfl ?_
    refine XR_wa (opl_new rfl) rfl rfl rfl ?_
    rintro _ hp ⟨p13, rfl, hnew⟩
    replace st := st.new hnew
    refine XR_wn (opl_store_whole (us := sltC T.1) st 0 rfl rfl rfl rfl rfl (sltC_one _) rfl) rfl rfl fun _ hp st => ?_
    simp only [List.set_cons_zero, List.set_cons_succ] at st
    refine XR_a (op_assign rfl) rfl rfl ?_
    refine XR_nil ?_
    refine X_seq ?_
    refine X_reg ?_
    refine XR_a (op_move rfl) rfl rfl ?_
    refine XR_a (op_eql rfl rfl) rfl rfl ?_
    refine XR_nil ?_
    refine X_if rfl (fun h => ?_) (fun h => ?_)
    · refine X_seq ?_
      refine X_reg ?_
      refine XR_wa (opl_call (lives21 _) rfl (by kernel_rfl)) rfl rfl rfl ?_
      rintro _ hp ⟨rfl, hx⟩
      refine XR_a (op_assign rfl) rfl rfl ?_
      refine XR_nil ?_
      refine X_ret (.cons (.tmp rfl) .nil) ?_
      exact ⟨rfl, st.low.trans (hx.mono st.low.size)⟩
    · have hbad : (slotTake l).2 ≠ 0 := by rw [hT]; exact h
      replace st := st.tail.tail
      refine X_skip ?_
      refine X_seq ?_
      refine X_draw_in (butAt [(3, .grow)]) [0, 1, 2, 5, 6, 3, 4, 7] (by kernel_rfl) (by kernel_rfl) rfl ?_
      refine XR_a (op_move rfl) rfl rfl ?_
      first | refine XR_a (op_field0 rfl rfl) rfl rfl ?_ | refine XR_a (op_fieldn rfl rfl) rfl rfl ?_
      refine XR_a (op_ld (st.cell 2 (i := 0) rfl rfl) rfl rfl rfl) rfl rfl ?_
      first | refine XR_a (op_field0 rfl rfl) rfl rfl ?_ | refine XR_a (op_fieldn rfl rfl) rfl rfl ?_
      rw [List.map_append] at st
      refine XR_a (op_ld (st.cell 5 (i := 6) rfl rfl) rfl rfl rfl) rfl rfl ?_
      refine XR_ga (opl_call (splace_spec (a := n.seq) (by simp only [inK]; omega) _) rfl (by kernel_rfl)) rfl rfl rfl (fun _ _ h => h.2 ▸ Low.refl _ _) ?_
      rintro _ _ ⟨rfl, rfl⟩
      rw [if_pos (by omega)]
      refine XR_a (op_slice_l (l := 512) rfl rfl rfl (by omega) (by omega)) rfl rfl ?_
      rw [cutA_some (by omega)]
      refine XR_wa (opl_copy (o := 512) st 0 rfl (hr.ext st.low) (by omega) (one_bytes _) (by rw [List.length_append]; omega) rfl rfl rfl rfl) rfl rfl rfl ?_
      rintro _ hp ⟨rfl, st⟩
      simp only [List.set_cons_zero, List.set_cons_succ] at st
      rw [put_right hsv hnv hlv] at st
      rw [← List.map_append] at st
      refine XR_nil ?_
      refine X_seq ?_
      refine X_reg ?_
      refine XR_a (op_move rfl) rfl rfl ?_
      refine XR_wa (opl_call (choose_spec (st.tab 4 rfl) (st.rdS 0 rfl).2 (by rw [List.length_append]; omega) hnca) rfl (by kernel_rfl)) rfl rfl rfl ?_
      rintro _ hp ⟨rfl, hx3⟩
      replace st := st.ext hx3
      rw [choose_left hs hl hbad]
      refine XR_a (op_move rfl) rfl rfl ?_
      refine XR_a (op_extract rfl rfl) rfl rfl ?_
      refine XR_a (op_extract rfl rfl) rfl rfl ?_
      refine XR_wa (opl_new rfl) rfl rfl rfl ?_
      rintro _ hp ⟨p15, rfl, hnew⟩
      replace st := st.new hnew
      refine XR_wn (opl_store_whole (us := sltC s) st 0 rfl rfl rfl rfl rfl (sltC_one _) rfl) rfl rfl fun _ hp st => ?_
      simp only [List.set_cons_zero, List.set_cons_succ] at st
      refine XR_a (op_assign rfl) rfl rfl ?_
      refine XR_nil ?_
      refine X_seq ?_
      refine X_reg ?_
      refine XR_a (op_move rfl) rfl rfl ?_
      refine XR_a (op_eql rfl rfl) rfl rfl ?_
      refine XR_as (.bool true) rfl ?_
      refine XR_a (op_move rfl) rfl rfl ?_
      refine XR_a (op_ldA (st.cells 0 rfl) rfl rfl rfl rfl) rfl rfl ?_
      first | refine XR_a (op_field0 rfl rfl) rfl rfl ?_ | refine XR_a (op_fieldn rfl rfl) rfl rfl ?_
      refine XR_a (op_ldA (st.part 6 0 [] (sltC s) [.int .i64 e, .int .i64 k, .slice A 512 c] rfl rfl) rfl rfl rfl rfl) rfl rfl ?_
      refine XR_a (op_eqlH rfl rfl (eq_slt s s) (by kernel_rfl)) rfl rfl ?_
      refine XR_as (.bool true) (by simp) ?_
      refine XR_a (op_pick_t rfl rfl) rfl rfl ?_
      refine XR_a (op_move rfl) rfl rfl ?_
      refine XR_wa (opl_call (lives21 _) rfl (by kernel_rfl)) rfl rfl rfl ?_
      rintro _ hp ⟨rfl, hx⟩
      refine XR_a (op_pick_t rfl rfl) rfl rfl ?_
      refine XR_a (op_assign rfl) rfl rfl ?_
      refine XR_nil ?_
      refine X_ret (.cons (.tmp rfl) .nil) ?_
      exact ⟨rfl, st.low.trans (hx.mono st.low.size)⟩

theorem slotLater_dFalse {s : Slt} {e k : Int} {m c : Nat} {A : Option Addr} {l : List UInt8} {h0 : Heap} (hs : s.right) (hr : Rd h0 A (l.map byteV)) (hl : l.length = m) (hmc : m ≤ c) (hpar : s.seq % 2 = 0) (hN1 : nextS s ⟨0, e, k, true⟩ = (Slt.nil, false)) (h1 : (nextS s ⟨0, s.en, 0, false⟩).2 = true) : Ret Try.prog 13 [.agg #[.int .i64 s.seq, .int .i64 s.en, .int .i64 s.dir, .bool s.cl, .int .i64 e, .int .i64 k, .slice A m c]] h0 fun v h' => v = .bool true ∧ Ext h0 h' := by
  obtain ⟨n, hn⟩ : ∃ n, (nextS s ⟨0, s.en, 0, false⟩).1 = n := ⟨_, rfl⟩
  have hnr : n.right ∧ n.seq = s.seq + 1 := by rw [← hn]; exact nextS_true h1
  obtain ⟨hnr, hseq⟩ := hnr
  have h9 := hnr
  simp only [Slt.right] at h9
  have hsl := s.bytes_length
  have hnl := n.bytes_length
  refine ret_of_X Try.func13 rfl rfl fun w0 hw0 => ?_
  simp only [argE, Nat.zero_add, Nat.reduceAdd]
  have st := St.start h0
  refine X_seq ?_
  refine X_reg ?_
  refine XR_wa (opl_bx rfl rfl) rfl rfl rfl ?_
  rintro _ hp ⟨p, rfl, hnew⟩
  have st := st.new hnew
  refine XR_a (op_assign rfl) rfl rfl ?_
  refine XR_nil ?_
  refine X_seq ?_
  refine X_reg ?_
  refine XR_wa (opl_call (make_spec _) rfl (by kernel_rfl)) rfl rfl rfl ?_
  rintro _ hp ⟨rfl, hx⟩
  replace st := st.ext hx
  refine XR_wa (opl_new (zs := List.replicate 256 (.int .u32 0)) (by kernel_rfl)) rfl rfl rfl ?_
  rintro _ hp ⟨tp, rfl, hnew⟩
  replace st := st.new hnew
  refine XR_wn (opl_store_whole st 0 rfl rfl rfl rfl (by rw [tabV_length]; rfl) tabV_one (by rw [tabV_length, List.length_replicate])) rfl rfl fun _ hp st => ?_
  simp only [List.set_cons_zero, List.set_cons_succ] at st
  refine XR_nil ?_
  refine X_seq ?_
  refine X_reg ?_
  first | refine XR_a (op_field0 rfl rfl) rfl rfl ?_ | refine XR_a (op_fieldn rfl rfl) rfl rfl ?_
  refine XR_a (op_ldA (st.part 1 0 [] (sltC s) [.int .i64 e, .int .i64 k, .slice A m c] rfl rfl) rfl rfl rfl rfl) rfl rfl ?_
  refine XR_wa (opl_call (sput_ok' (st.tab 0 rfl) hs) rfl (by kernel_rfl)) rfl rfl rfl ?_
  rintro _ hp ⟨v1, rfl, st2⟩
  replace st := st.join st2
  simp only [List.cons_append, List.nil_append] at st
  obtain ⟨A1, n1, c1, rfl, hlen1, hnc1, _, hrd1⟩ := st.row 0 rfl
  obtain rfl : n1 = 512 := by rw [List.length_map, hsl] at hlen1; omega
  refine XR_a (op_move rfl) rfl rfl ?_
  refine XR_a (op_extract rfl rfl) rfl rfl ?_
  refine XR_a (op_extract rfl rfl) rfl rfl ?_
  refine XR_a (op_assign rfl) rfl rfl ?_
  refine XR_a (op_assign rfl) rfl rfl ?_
  refine XR_nil ?_
  refine X_seq ?_
  refine X_reg ?_
  first | refine XR_a (op_field0 rfl rfl) rfl rfl ?_ | refine XR_a (op_fieldn rfl rfl) rfl rfl ?_
  refine XR_a (op_ldA (st.part 2 0 [] (sltC s) [.int .i64 e, .int .i64 k, .slice A m c] rfl rfl) rfl rfl rfl rfl) rfl rfl ?_
  first | refine XR_a (op_field0 rfl rfl) rfl rfl ?_ | refine XR_a (op_fieldn rfl rfl) rfl rfl ?_
  refine XR_a (op_ld (st.cell 2 (i := 4) rfl rfl) rfl rfl rfl) rfl rfl ?_
  first | refine XR_a (op_field0 rfl rfl) rfl rfl ?_ | refine XR_a (op_fieldn rfl rfl) rfl rfl ?_
  refine XR_a (op_ld (st.cell 2 (i := 5) rfl rfl) rfl rfl rfl) rfl rfl ?_
  refine XR_wa (opl_call (sclean_spec' s e k _) rfl (by kernel_rfl)) rfl rfl rfl ?_
  rintro _ hp ⟨rfl, hx2⟩
  replace st := st.ext hx2
  rw [hN1]
  refine XR_a (op_move rfl) rfl rfl ?_
  refine XR_a (op_extract rfl rfl) rfl rfl ?_
  refine XR_a (op_extract rfl rfl) rfl rfl ?_
  refine XR_wa (opl_new rfl) rfl rfl rfl ?_
  rintro _ hp ⟨p6, rfl, hnew⟩
  replace st := st.new hnew
  refine XR_wn (opl_store_whole (us := sltC Slt.nil) st 0 rfl rfl rfl rfl rfl (sltC_one _) rfl) rfl rfl fun _ hp st => ?_
  simp only [List.set_cons_zero, List.set_cons_succ] at st
  refine XR_a (op_assign rfl) rfl rfl ?_
  refine XR_nil ?_
  refine X_seq ?_
  refine X_seq ?_
  refine X_reg ?_
  refine XR_a (op_move rfl) rfl rfl ?_
  first | refine XR_a (op_notd rfl) rfl rfl ?_ | refine XR_a (op_not rfl) rfl rfl ?_
  refine XR_nil ?_
  refine X_then rfl ?_
  refine X_reg ?_
  first | refine XR_a (op_field0 rfl rfl) rfl rfl ?_ | refine XR_a (op_fieldn rfl rfl) rfl rfl ?_
  refine XR_a (op_ldA (st.part 3 0 [] (sltC s) [.int .i64 e, .int .i64 k, .slice A m c] rfl rfl) rfl rfl rfl rfl) rfl rfl ?_
  refine XR_wa (opl_call (sdirty_spec' s _) rfl (by kernel_rfl)) rfl rfl rfl ?_
  rintro _ hp ⟨rfl, hx2⟩
  replace st := st.ext hx2
  rw [h1, hn]
  refine XR_a (op_move rfl) rfl rfl ?_
  refine XR_a (op_extract rfl rfl) rfl rfl ?_
  refine XR_a (op_extract rfl rfl) rfl rfl ?_
  refine XR_wn (opl_store_whole (us := sltC n) st 0 rfl rfl rfl rfl rfl (sltC_one _) rfl) rfl rfl fun _ hp st => ?_
  simp only [List.set_cons_zero, List.set_cons_succ] at st
  refine XR_a (op_assign rfl) rfl rfl ?_
  refine XR_nil ?_
  refine X_seq ?_
  refine X_reg ?_
  refine XR_a (op_ldA (st.cells 0 rfl) rfl rfl rfl rfl) rfl rfl ?_
  refine XR_wa (opl_call (sput_ok' (st.tab 2 rfl) hnr) rfl (by kernel_rfl)) rfl rfl rfl ?_
  rintro _ hp ⟨v2, rfl, st2⟩
  replace st := st.join st2
  simp only [List.cons_append, List.nil_append] at st
  obtain ⟨A2, n2, c2, rfl, hlen2, hnc2, _, hrd2⟩ := st.row 0 rfl
  obtain rfl : n2 = 512 := by rw [List.length_map, hnl] at hlen2; omega
  refine XR_a (op_move rfl) rfl rfl ?_
  refine XR_a (op_extract rfl rfl) rfl rfl ?_
  refine XR_a (op_extract rfl rfl) rfl rfl ?_
  refine XR_a (op_assign rfl) rfl rfl ?_
  refine XR_a (op_assign rfl) rfl rfl ?_
  refine XR_nil ?_
  refine X_seq ?_
  refine X_seq ?_
  refine X_reg ?_
  refine XR_a (op_move rfl) rfl rfl ?_
  refine XR_a (op_neq rfl rfl) rfl rfl ?_
  refine XR_as (.bool false) rfl ?_
  refine XR_a (op_move rfl) rfl rfl ?_
  refine XR_a (op_move rfl) rfl rfl ?_
  first | refine XR_a (op_notd rfl) rfl rfl ?_ | refine XR_a (op_not rfl) rfl rfl ?_
  refine XR_a (op_pick_f rfl rfl) rfl rfl ?_
  refine XR_a (op_move rfl) rfl rfl ?_
  refine XR_a (op_move rfl) rfl rfl ?_
  refine XR_a (op_neq rfl rfl) rfl rfl ?_
  refine XR_as (.bool false) rfl ?_
  refine XR_a (op_pick_f rfl rfl) rfl rfl ?_
  refine XR_a (op_move rfl) rfl rfl ?_
  first | refine XR_a (op_field0 rfl rfl) rfl rfl ?_ | refine XR_a (op_fieldn rfl rfl) rfl rfl ?_
  refine XR_a (op_ld (st.cell 4 (i := 6) rfl rfl) rfl rfl rfl) rfl rfl ?_
  refine XR_a (op_len rfl rfl rfl) rfl rfl ?_
  refine XR_a (op_neq rfl rfl) rfl rfl ?_
  refine XR_a (op_pick_f rfl rfl) rfl rfl ?_
  refine XR_nil ?_
  refine X_if rfl (fun h => ?_) (fun h => ?_)
  · refine X_seq ?_
    refine X_reg ?_
    refine XR_wa (opl_call (lives21 _) rfl (by kernel_rfl)) rfl rfl rfl ?_
    rintro _ hp ⟨rfl, hx⟩
    refine XR_a (op_assign rfl) rfl rfl ?_
    refine XR_nil ?_
    refine X_ret (.cons (.tmp rfl) .nil) ?_
    exact ⟨rfl, st.low.trans (hx.mono st.low.size)⟩
  · refine X_skip ?_
    refine X_seq ?_
    refine X_reg ?_
    obtain rfl : m = 512 := by omega
    refine XR_wa (opl_mk (n := 1024) (by omega) rfl rfl rfl) rfl rfl rfl ?_
    rintro v hp hnew
    replace st := st.new hnew
    rw [show List.replicate 1024 (Value.int .u8 0) = Z512.map byteV ++ Z512.map byteV by
      unfold Z512; rw [List.map_replicate, List.replicate_append_replicate]; rfl] at st
    have hz : (Z512.map byteV).length = 512 := by rw [List.length_map, Z512_length]
    have hsv : (s.bytes.map byteV).length = 512 := by rw [List.length_map, hsl]
    have hnv : (n.bytes.map byteV).length = 512 := by rw [List.length_map, hnl]
    have hlv : (l.map byteV).length = 512 := by rw [List.length_map, hl]
    generalize Z512.map byteV = zz at *
    obtain ⟨ga, na, ca, rfl, hlena, hnca, _, hrda⟩ := st.row0 0 rfl (by rw [List.length_append]; omega)
    obtain rfl : na = 1024 := by rw [List.length_append] at hlena; omega
    refine XR_a (op_assign rfl) rfl rfl ?_
    refine XR_nil ?_
    refine X_seq ?_
    refine X_reg ?_
    refine XR_a (op_move rfl) rfl rfl ?_
    first | refine XR_a (op_field0 rfl rfl) rfl rfl ?_ | refine XR_a (op_fieldn rfl rfl) rfl rfl ?_
    first | refine XR_a (op_field0 rfl rfl) rfl rfl ?_ | refine XR_a (op_fieldn rfl rfl) rfl rfl ?_
    refine XR_a (op_ld (st.cell 5 (i := 0) rfl rfl) rfl rfl rfl) rfl rfl ?_
    refine XR_wa (opl_call (splace_spec (a := s.seq) (by have := hs; simp only [Slt.right] at this; simp only [inK]; omega) _) rfl (by kernel_rfl)) rfl rfl rfl ?_
    rintro _ _ ⟨rfl, rfl⟩
    rw [if_neg (by omega)]
    refine XR_a (op_slice_l (l := 0) rfl rfl rfl (by omega) (by omega)) rfl rfl ?_
    rw [cutA_some (by omega)]
    refine XR_a (op_move rfl) rfl rfl ?_
    refine XR_wa (opl_copy (o := 0) st 0 rfl ((st.rdS 3 rfl).2) (by omega) (one_bytes _) (by rw [List.length_append]; omega) rfl rfl rfl rfl) rfl rfl rfl ?_
    rintro _ hp ⟨rfl, st⟩
    simp only [List.set_cons_zero, List.set_cons_succ] at st
    rw [put_left hz hsv] at st
    refine XR_nil ?_
    refine X_seq ?_
    refine X_reg ?_
    refine XR_a (op_move rfl) rfl rfl ?_
    first | refine XR_a (op_field0 rfl rfl) rfl rfl ?_ | refine XR_a (op_fieldn rfl rfl) rfl rfl ?_
    refine XR_a (op_ld (st.cell 2 (i := 0) rfl rfl) rfl rfl rfl) rfl rfl ?_
    refine XR_wa (opl_call (splace_spec (a := n.seq) (by simp only [inK]; omega) _) rfl (by kernel_rfl)) rfl rfl rfl ?_
    rintro _ _ ⟨rfl, rfl⟩
    rw [if_pos (by omega)]
    refine XR_a (op_slice_l (l := 512) rfl rfl rfl (by omega) (by omega)) rfl rfl ?_
    rw [cutA_some (by omega)]
    refine XR_a (op_move rfl) rfl rfl ?_
    refine XR_wa (opl_copy (o := 512) st 0 rfl ((st.rdS 1 rfl).2) (by omega) (one_bytes _) (by rw [List.length_append]; omega) rfl rfl rfl rfl) rfl rfl rfl ?_
    rintro _ hp ⟨rfl, st⟩
    simp only [List.set_cons_zero, List.set_cons_succ] at st
    rw [put_right hsv hz hnv] at st
    rw [← List.map_append] at st
    refine XR_nil ?_
    refine X_seq ?_
    refine X_reg ?_
    refine XR_a (op_move rfl) rfl rfl ?_
    refine XR_wa (opl_call (choose_spec (st.tab 4 rfl) (st.rdS 0 rfl).2 (by rw [List.length_append]; omega) hnca) rfl (by kernel_rfl)) rfl rfl rfl ?_
    rintro _ hp ⟨rfl, hx3⟩
    replace st := st.ext hx3
    rw [choose_first hs hnr (by omega)]
    refine XR_a (op_move rfl) rfl rfl ?_
    refine XR_a (op_extract rfl rfl) rfl rfl ?_
    refine XR_a (op_extract rfl rfl) rfl rfl ?_
    refine XR_wa (opl_new rfl) rfl rfl rfl ?_
    rintro _ hp ⟨p11, rfl, hnew⟩
    replace st := st.new hnew
    refine XR_wn (opl_store_whole (us := sltC n) st 0 rfl rfl rfl rfl rfl (sltC_one _) rfl) rfl rfl fun _ hp st => ?_
    simp only [List.set_cons_zero, List.set_cons_succ] at st
    refine XR_a (op_assign rfl) rfl rfl ?_
    refine XR_nil ?_
    refine X_seq ?_
    refine X_seq ?_
    refine X_reg ?_
    refine XR_a (op_move rfl) rfl rfl ?_
    refine XR_a (op_neq rfl rfl) rfl rfl ?_
    refine XR_as (.bool false) rfl ?_
    refine XR_a (op_move rfl) rfl rfl ?_
    refine XR_a (op_ldA (st.cells 0 rfl) rfl rfl rfl rfl) rfl rfl ?_
    refine XR_a (op_ldA (st.cells 3 rfl) rfl rfl rfl rfl) rfl rfl ?_
    refine XR_a (op_neqH rfl rfl (neq_slt n n) (by kernel_rfl)) rfl rfl ?_
    refine XR_as (.bool false) (by simp) ?_
    refine XR_a (op_pick_f rfl rfl) rfl rfl ?_
    refine XR_nil ?_
    refine X_else rfl ?_
    refine X_skip ?_
    refine X_seq ?_
    refine X_seq ?_
    refine X_reg ?_
    first | refine XR_a (op_field0 rfl rfl) rfl rfl ?_ | refine XR_a (op_fieldn rfl rfl) rfl rfl ?_
    refine XR_a (op_ld (st.cell 6 (i := 6) rfl rfl) rfl rfl rfl) rfl rfl ?_
    refine XR_wa (opl_call (stake_spec (st.tab 5 rfl) (hr.ext st.low) hl (by omega) hmc) rfl (by kernel_rfl)) rfl rfl rfl ?_
    rintro _ hp ⟨rfl, hx3⟩
    replace st := st.ext hx3
    obtain ⟨T, hT⟩ : ∃ T, slotTake l = T := ⟨_, rfl⟩
    rw [hT]
    refine XR_a (op_move rfl) rfl rfl ?_
    refine XR_a (op_extract rfl rfl) rfl rfl ?_
    refine XR_a (op_extract rfl rfl) rfl rfl ?_
    refine XR_wa (opl_new rfl) rfl rfl rfl ?_
    rintro _ hp ⟨p13, rfl, hnew⟩
    replace st := st.new hnew
    refine XR_wn (opl_store_whole (us := sltC T.1) st 0 rfl rfl rfl rfl rfl (sltC_one _) rfl) rfl rfl fun _ hp st => ?_
    simp only [List.set_cons_zero, List.set_cons_succ] at st
    refine XR_a (op_assign rfl) rfl rfl ?_
    refine XR_nil ?_
    refine X_seq ?_
    refine X_reg ?_
    refine XR_a (op_move rfl) rfl rfl ?_
    refine XR_a (op_eql rfl rfl) rfl rfl ?_
    refine XR_nil ?_
    refine X_if rfl (fun h => ?_) (fun h => ?_)
    · refine X_seq ?_
      refine X_reg ?_
      refine XR_wa (opl_call (lives21 _) rfl (by kernel_rfl)) rfl rfl rfl ?_
      rintro _ hp ⟨rfl, hx⟩
      refine XR_a (op_assign rfl) rfl rfl ?_
      refine XR_nil ?_
      refine X_ret (.cons (.tmp rfl) .nil) ?_
      exact ⟨rfl, st.low.trans (hx.mono st.low.size)⟩
    · have hbad : (slotTake l).2 ≠ 0 := by rw [hT]; exact h
      replace st := st.tail.tail
      refine X_skip ?_
      refine X_seq ?_
      refine X_draw_in (butAt [(3, .grow)]) [0, 1, 2, 5, 6, 3, 4, 7] (by kernel_rfl) (by kernel_rfl) rfl ?_
      refine XR_a (op_move rfl) rfl rfl ?_
      first | refine XR_a (op_field0 rfl rfl) rfl rfl ?_ | refine XR_a (op_fieldn rfl rfl) rfl rfl ?_
      refine XR_a (op_ld (st.cell 2 (i := 0) rfl rfl) rfl rfl rfl) rfl rfl ?_
      first | refine XR_a (op_field0 rfl rfl) rfl rfl ?_ | refine XR_a (op_fieldn rfl rfl) rfl rfl ?_
      rw [List.map_append] at st
      refine XR_a (op_ld (st.cell 5 (i := 6) rfl rfl) rfl rfl rfl) rfl rfl ?_
      refine XR_ga (opl_call (splace_spec (a := n.seq) (by simp only [inK]; omega) _) rfl (by kernel_rfl)) rfl rfl rfl (fun _ _ h => h.2 ▸ Low.refl _ _) ?_
      rintro _ _ ⟨rfl, rfl⟩
      rw [if_pos (by omega)]
      refine XR_a (op_slice_l (l := 512) rfl rfl rfl (by omega) (by omega)) rfl rfl ?_
      rw [cutA_some (by omega)]
      refine XR_wa (opl_copy (o := 512) st 0 rfl (hr.ext st.low) (by omega) (one_bytes _) (by rw [List.length_append]; omega) rfl rfl rfl rfl) rfl rfl rfl ?_
      rintro _ hp ⟨rfl, st⟩
      simp only [List.set_cons_zero, List.set_cons_succ] at st
      rw [put_right hsv hnv hlv] at st
      rw [← List.map_append] at st
      refine XR_nil ?_
      refine X_seq ?_
      refine X_reg ?_
      refine XR_a (op_move rfl) rfl rfl ?_
      refine XR_wa (opl_call (choose_spec (st.tab 4 rfl) (st.rdS 0 rfl).2 (by rw [List.length_append]; omega) hnca) rfl (by kernel_rfl)) rfl rfl rfl ?_
      rintro _ hp ⟨rfl, hx3⟩
      replace st := st.ext hx3
      rw [choose_left hs hl hbad]
      refine XR_a (op_move rfl) rfl rfl ?_
      refine XR_a (op_extract rfl rfl) rfl rfl ?_
      refine XR_a (op_extract rfl rfl) rfl rfl ?_
      refine XR_wa (opl_new rfl) rfl rfl rfl ?_
      rintro _ hp ⟨p15, rfl, hnew⟩
      replace st := st.new hnew
      refine XR_wn (opl_store_whole (us := sltC s) st 0 rfl rfl rfl rfl rfl (sltC_one _) rfl) rfl rfl fun _ hp st => ?_
      simp only [List.set_cons_zero, List.set_cons_succ] at st
      refine XR_a (op_assign rfl) rfl rfl ?_
      refine XR_nil ?_
      refine X_seq ?_
      refine X_reg ?_
      refine XR_a (op_move rfl) rfl rfl ?_
      refine XR_a (op_eql rfl rfl) rfl rfl ?_
      refine XR_as (.bool true) rfl ?_
      refine XR_a (op_move rfl) rfl rfl ?_
      refine XR_a (op_ldA (st.cells 0 rfl) rfl rfl rfl rfl) rfl rfl ?_
      first | refine XR_a (op_field0 rfl rfl) rfl rfl ?_ | refine XR_a (op_fieldn rfl rfl) rfl rfl ?_
      refine XR_a (op_ldA (st.part 6 0 [] (sltC s) [.int .i64 e, .int .i64 k, .slice A 512 c] rfl rfl) rfl rfl rfl rfl) rfl rfl ?_
      refine XR_a (op_eqlH rfl rfl (eq_slt s s) (by kernel_rfl)) rfl rfl ?_
      refine XR_as (.bool true) (by simp) ?_
      refine XR_a (op_pick_t rfl rfl) rfl rfl ?_
      refine XR_a (op_move rfl) rfl rfl ?_
      refine XR_wa (opl_call (lives21 _) rfl (by kernel_rfl)) rfl rfl rfl ?_
      rintro _ hp ⟨rfl, hx⟩
      refine XR_a (op_pick_t rfl rfl) rfl rfl ?_
      refine XR_a (op_assign rfl) rfl rfl ?_
      refine XR_nil ?_
      refine X_ret (.cons (.tmp rfl) .nil) ?_
      exact ⟨rfl, st.low.trans (hx.mono st.low.size)⟩

theorem slotLater_ret {s : Slt} {e k : Int} {m c : Nat} {A : Option Addr} {l : List UInt8} {h0 : Heap} (hr : Rd h0 A (l.map byteV)) (hl : l.length = m) (hmc : m ≤ c) : Ret Try.prog 13 [.agg #[.int .i64 s.seq, .int .i64 s.en, .int .i64 s.dir, .bool s.cl, .int .i64 e, .int .i64 k, .slice A m c]] h0 fun v h' => v = .bool true ∧ Ext h0 h' := by
  by_cases hs : s.right
  · cases h1 : (nextS s ⟨0, e, k, true⟩).2 with
    | true =>
      by_cases hp : s.seq % 2 = 1
      · exact slotLater_cTrue hs hr hl hmc hp h1
      · exact slotLater_cFalse hs hr hl hmc (by omega) h1
    | false =>
      have hN1 := nextS_false h1
      cases h2 : (nextS s ⟨0, s.en, 0, false⟩).2 with
      | true =>
        by_cases hp : s.seq % 2 = 1
        · exact slotLater_dTrue hs hr hl hmc hp hN1 h2
        · exact slotLater_dFalse hs hr hl hmc (by omega) hN1 h2
      | false => exact slotLater_b (l := l) hs hN1 (nextS_false h2)
  · exact slotLater_a (l := l) hs
end Go.Bn
