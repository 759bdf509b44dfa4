/- The law SlotPuts comes to true. -/
import Derived.Test.YtigbhndidohgbaaSlot
set_option linter.unusedVariables false
set_option linter.unusedSimpArgs false
set_option maxHeartbeats 4000000
set_option maxRecDepth 20000
namespace Go.Bn
open Go Proofs

theorem eq_slot (a b c a' b' c' : Int) (d d' : Bool) (w : World) : (binOp .eql 72 (.agg #[.int .i64 a, .int .i64 b, .int .i64 c, .bool d]) (.agg #[.int .i64 a', .int .i64 b', .int .i64 c', .bool d'])).run Try.prog w = .ok (.bool (decide (Slt.mk a b c d = Slt.mk a' b' c' d'))) w := by
  have hS : Try.prog.underlying 72 = some (.struct (Try.prog.fieldsOf 72)) := by kernel_rfl
  have hp : Try.prog.stoodInHeld 72 = false := by kernel_rfl
  have u3 := Try.underlying3
  have ub := Try.underlying4
  have a3 : ∀ w, (isAgg 3).run Try.prog w = .ok false w := run_isAgg_single rfl
  have ab : ∀ w, (isAgg 4).run Try.prog w = .ok false w := run_isAgg_single rfl
  have e3 : ∀ (x y : Int) (w : World), (Op.equalIn 9999 3 (.int .i64 x) (.int .i64 y)).run Try.prog w = .ok (x == y) w := fun x y w => run_equalIn_int w 9998 _ _ _ _ _ u3
  have eb : ∀ (x y : Bool) (w : World), (Op.equalIn 9999 4 (.bool x) (.bool y)).run Try.prog w = .ok (x == y) w := fun x y w => run_equalIn_bool' w 9998 _ _ _ ub
  rw [run_eql_struct, show (10000 : Nat) = 9999 + 1 from rfl, run_equalIn_agg w 9999 72 _ _ hS hp]
  simp only [Program.fieldsOf, Try.underlying72]
  by_cases h1 : a = a' <;> by_cases h2 : b = b' <;> by_cases h3 : c = c' <;> by_cases h4 : d = d' <;> simp [Op.eqFields, part, a3, ab, e3, eb, h1, h2, h3, h4]

theorem lives21 (h0 : Heap) : Ret Try.prog 42 [] h0 fun v h' => v = .bool true ∧ Ext h0 h' := by
  have hs : (Slt.mk ((3 : Nat) : Int) ((1024 : Nat) : Int) ((0 : Nat) : Int) false).right := by decide
  refine ret_of_X Try.func42 rfl rfl fun w0 hw0 => ?_
  simp only [argE, Nat.zero_add, Nat.reduceAdd]
  refine X_seq ?_
  refine X_reg ?_
  refine XR_a (op_assign rfl) rfl rfl ?_
  refine XR_nil ?_
  refine X_seq ?_
  refine X_reg ?_
  refine XR_wa (opl_call (make_spec h0) rfl (by kernel_rfl)) rfl rfl rfl ?_
  rintro _ hp ⟨rfl, hx⟩
  have st := (St.start h0).ext hx
  refine XR_wa (opl_new (zs := List.replicate 256 (.int .u32 0)) (by kernel_rfl)) rfl rfl rfl ?_
  rintro _ hp ⟨p, rfl, hnew⟩
  replace st := st.new hnew
  refine XR_wn (opl_store_whole st 0 rfl rfl rfl rfl (by rw [tabV_length]; rfl) tabV_one (by rw [tabV_length, List.length_replicate])) rfl rfl fun _ hp st => ?_
  simp only [List.set_cons_zero, List.set_cons_succ] at st
  refine XR_nil ?_
  refine X_seq ?_
  refine X_reg ?_
  refine XR_a (op_build (ps := [(0, .int .i64 3), (1, .int .i64 1024)]) (cs := #[.int .i64 3, .int .i64 1024, .int .i64 0, .bool false]) rfl rfl) rfl rfl ?_
  refine XR_wa (opl_call (sput_ok (st.tab 0 rfl) hs) rfl (by kernel_rfl)) rfl rfl rfl ?_
  rintro _ hp ⟨v1, rfl, st2⟩
  replace st := st.join st2
  simp only [List.cons_append, List.nil_append] at st
  obtain ⟨A1, n1, c1, rfl, hlen1, hnc1, _, hrd1⟩ := st.row 0 rfl
  have hbl := (Slt.mk ((3 : Nat) : Int) ((1024 : Nat) : Int) ((0 : Nat) : Int) false).bytes_length
  obtain rfl : n1 = 512 := by rw [List.length_map, hbl] at hlen1; omega
  refine XR_a (op_move rfl) rfl rfl ?_
  refine XR_a (op_extract rfl rfl) rfl rfl ?_
  refine XR_a (op_extract rfl rfl) rfl rfl ?_
  refine XR_a (op_assign rfl) rfl rfl ?_
  refine XR_a (op_assign rfl) rfl rfl ?_
  refine XR_nil ?_
  refine X_seq ?_
  refine X_reg ?_
  refine XR_a (op_move rfl) rfl rfl ?_
  refine XR_wa (opl_call (stake_spec (st.tab 1 rfl) hrd1 hbl (by omega) hnc1) rfl (by kernel_rfl)) rfl rfl rfl ?_
  rintro _ hp ⟨rfl, hx3⟩
  rw [slotTake_bytes _ hs]
  replace st := st.ext hx3
  refine XR_a (op_move rfl) rfl rfl ?_
  refine XR_a (op_extract rfl rfl) rfl rfl ?_
  refine XR_a (op_extract rfl rfl) rfl rfl ?_
  refine XR_wa (opl_new rfl) rfl rfl rfl ?_
  rintro _ hp ⟨p8, rfl, hnew⟩
  replace st := st.new hnew
  refine XR_wn (opl_store_whole (us := sltC (Slt.mk 3 1024 0 false)) st 0 rfl rfl rfl rfl rfl (sltC_one _) rfl) rfl rfl fun _ hp st => ?_
  simp only [List.set_cons_zero, List.set_cons_succ] at st
  refine XR_a (op_assign rfl) rfl rfl ?_
  refine XR_nil ?_
  refine X_seq ?_
  refine X_reg ?_
  refine XR_a (op_move rfl) rfl rfl ?_
  refine XR_a (op_eql rfl rfl) rfl rfl ?_
  refine XR_as (.bool true) rfl ?_
  refine XR_a (op_move rfl) rfl rfl ?_
  refine XR_a (op_move rfl) rfl rfl ?_
  refine XR_a (op_eql rfl rfl) rfl rfl ?_
  refine XR_as (.bool true) rfl ?_
  refine XR_a (op_pick_t rfl rfl) rfl rfl ?_
  refine XR_a (op_move rfl) rfl rfl ?_
  refine XR_a (op_move rfl) rfl rfl ?_
  refine XR_a (op_len rfl rfl rfl) rfl rfl ?_
  refine XR_a (op_eql rfl rfl) rfl rfl ?_
  refine XR_as (.bool true) rfl ?_
  refine XR_a (op_pick_t rfl rfl) rfl rfl ?_
  refine XR_a (op_move rfl) rfl rfl ?_
  refine XR_a (op_ldA (st.cells 0 rfl) rfl rfl rfl rfl) rfl rfl ?_
  refine XR_a (op_build (ps := [(0, .int .i64 3), (1, .int .i64 1024)]) (cs := #[.int .i64 3, .int .i64 1024, .int .i64 0, .bool false]) rfl rfl) rfl rfl ?_
  refine XR_a (op_eqlH rfl rfl (eq_slot 3 1024 0 3 1024 0 false false) (by kernel_rfl)) rfl rfl ?_
  refine XR_as (.bool true) (by simp) ?_
  refine XR_a (op_pick_t rfl rfl) rfl rfl ?_
  refine XR_a (op_move rfl) rfl rfl ?_
  refine XR_wa (opl_call (splace_spec (a := 3) (by simp only [inK]; omega) _) rfl (by kernel_rfl)) rfl rfl rfl ?_
  rintro _ _ ⟨rfl, rfl⟩
  refine XR_a (op_eql rfl rfl) rfl rfl ?_
  refine XR_as (.bool true) rfl ?_
  refine XR_a (op_pick_t rfl rfl) rfl rfl ?_
  refine XR_a (op_assign rfl) rfl rfl ?_
  refine XR_nil ?_
  refine X_ret (.cons (.tmp rfl) .nil) ?_
  exact ⟨rfl, st.low⟩

theorem summed_ref {m k : Nat} {A : Option Addr} {l : List UInt8} {h0 : Heap} (hr : Rd h0 A (l.map byteV)) (hl : l.length = m) (hm : m ≤ 1099511627776) :
    Ret Try.prog 65 [.slice A m k] h0 fun v h' => St h0.size h0 h' [row 5 1 v ((l ++ leB 4 (sumN l)).map byteV)] := by
  have hs := sumN_lt l
  refine ret_of_X Try.func65 rfl rfl fun w0 hw0 => ?_
  simp only [argE, Nat.zero_add, Nat.reduceAdd]
  refine X_seq ?_
  refine X_reg ?_
  refine XR_a (op_assign rfl) rfl rfl ?_
  refine XR_nil ?_
  refine X_seq ?_
  refine X_reg ?_
  refine XR_wa (opl_lit0 rfl) rfl rfl rfl ?_
  rintro v hp hnew
  have st := (St.start h0).new hnew
  refine XR_a (op_move rfl) rfl rfl ?_
  refine XR_wa (opl_append st 0 rfl (hr.ext st.low) (by simpa using hl) (one_bytes _) (by simp; omega) rfl rfl rfl rfl rfl rfl rfl) rfl rfl rfl fun v hp st => ?_
  simp only [List.set_cons_zero, List.set_cons_succ] at st
  rw [List.nil_append] at st
  refine XR_a (op_move rfl) rfl rfl ?_
  refine XR_wa (opl_call (sum_ref (hr.ext st.low) hl (by omega)) rfl (by kernel_rfl)) rfl rfl rfl ?_
  rintro _ _ ⟨rfl, rfl⟩
  refine XR_wa (opl_call (fput_ref hs) rfl (by kernel_rfl)) rfl rfl rfl ?_
  rintro v2 hp st2
  obtain ⟨A2, n2, c2, rfl, hlen2, _, _, hrd2⟩ := st2.row 0 rfl
  replace st := st.ext st2.low
  refine XR_wa (opl_append st 0 rfl (hrd2) (hlen2) (one_bytes _) (by simp [leB_length, show wid 4 = 4 by rfl]; omega) rfl rfl rfl rfl rfl rfl rfl) rfl rfl rfl fun v hp st => ?_
  simp only [List.set_cons_zero, List.set_cons_succ] at st
  rw [← List.map_append, show wid 4 = 4 by rfl] at st
  refine XR_a (op_assign rfl) rfl rfl ?_
  refine XR_nil ?_
  refine X_ret (.cons (.tmp rfl) .nil) ?_
  exact st

theorem sput_ref {a b c : Nat} {cl : Bool} {h0 : Heap} (hs : (Slt.mk a b c cl).right) : Ret Try.prog 43 [.agg #[.int .i64 (a : Int), .int .i64 (b : Int), .int .i64 (c : Int), .bool cl]] h0 fun v h' =>
    St h0.size h0 h' [row 5 1 v ((Slt.mk a b c cl).bytes.map byteV)] := by
  have hs' := hs
  simp only [Slt.right] at hs'
  have ha : a < 4294967296 := by omega
  have hb : b < 4294967296 := by omega
  have hc : c < 4294967296 := by obtain ⟨_, _, _, _, h5⟩ := hs'; split at h5 <;> omega
  have w4 : wid 4 = 4 := rfl
  refine ret_of_X Try.func43 rfl rfl fun w0 hw0 => ?_
  simp only [argE, Nat.zero_add, Nat.reduceAdd]
  have st := St.start h0
  refine X_seq ?_
  refine X_reg ?_
  refine XR_wa (opl_bx rfl rfl) rfl rfl rfl ?_
  rintro _ hp ⟨p, rfl, hnew⟩
  have st := st.new hnew
  refine XR_a (op_assign rfl) rfl rfl ?_
  refine XR_nil ?_
  refine X_seq ?_
  refine X_reg ?_
  refine XR_wa (opl_lits (([83, 76, 79, 84] : List UInt8).map byteV) rfl rfl rfl rfl (by kernel_rfl) rfl) rfl rfl rfl ?_
  rintro v hp hnew
  replace st := st.new hnew
  obtain ⟨A, n, k, rfl, hlen, _, _, hrd⟩ := st.row 0 rfl
  obtain ⟨gb, o, rfl, _⟩ := hrd.at_ (by decide)
  refine XR_wa (opl_bytesLit st 0 rfl rfl rfl) rfl rfl rfl ?_
  rintro _ hp ⟨rfl, st⟩
  first | refine XR_a (op_field0 rfl rfl) rfl rfl ?_ | refine XR_a (op_fieldn rfl rfl) rfl rfl ?_
  refine XR_a (op_ld (by first | assumption | exact st.cell 0 rfl rfl | exact st.cell 1 rfl rfl | exact st.cell 2 rfl rfl | exact st.cell 3 rfl rfl) rfl rfl rfl) rfl rfl ?_
  first | refine XR_a (op_convI rfl rfl (by simp only [inK]; omega)) rfl rfl ?_ | refine XR_a (op_convU rfl rfl rfl) rfl rfl ?_ | refine XR_a (op_conv rfl rfl) rfl rfl ?_
  refine XR_wa (opl_call (fput_ref ha) rfl (by kernel_rfl)) rfl rfl rfl ?_
  rintro v2 hp st2
  obtain ⟨A2, n2, c2, rfl, hlen2, _, _, hrd2⟩ := st2.row 0 rfl
  replace st := st.ext st2.low
  refine XR_wa (opl_append st 0 rfl (hrd2) (hlen2) (one_bytes _) (by simp [leB_length, w4]) rfl rfl rfl rfl rfl rfl rfl) rfl rfl rfl fun v hp st => ?_
  simp only [List.set_cons_zero, List.set_cons_succ] at st
  rw [← List.map_append, w4] at st
  refine XR_a (op_assign rfl) rfl rfl ?_
  refine XR_nil ?_
  refine X_seq ?_
  refine X_reg ?_
  refine XR_a (op_move rfl) rfl rfl ?_
  first | refine XR_a (op_field0 rfl rfl) rfl rfl ?_ | refine XR_a (op_fieldn rfl rfl) rfl rfl ?_
  refine XR_a (op_ld (by first | assumption | exact st.cell 0 rfl rfl | exact st.cell 1 rfl rfl | exact st.cell 2 rfl rfl | exact st.cell 3 rfl rfl) rfl rfl rfl) rfl rfl ?_
  first | refine XR_a (op_convI rfl rfl (by simp only [inK]; omega)) rfl rfl ?_ | refine XR_a (op_convU rfl rfl rfl) rfl rfl ?_ | refine XR_a (op_conv rfl rfl) rfl rfl ?_
  refine XR_wa (opl_call (fput_ref hb) rfl (by kernel_rfl)) rfl rfl rfl ?_
  rintro v2 hp st2
  obtain ⟨A2, n2, c2, rfl, hlen2, _, _, hrd2⟩ := st2.row 0 rfl
  replace st := st.ext st2.low
  refine XR_wa (opl_append st 0 rfl (hrd2) (hlen2) (one_bytes _) (by simp [leB_length, w4]) rfl rfl rfl rfl rfl rfl rfl) rfl rfl rfl fun v hp st => ?_
  simp only [List.set_cons_zero, List.set_cons_succ] at st
  rw [← List.map_append, w4] at st
  refine XR_a (op_assign rfl) rfl rfl ?_
  refine XR_nil ?_
  refine X_seq ?_
  refine X_reg ?_
  refine XR_a (op_move rfl) rfl rfl ?_
  first | refine XR_a (op_field0 rfl rfl) rfl rfl ?_ | refine XR_a (op_fieldn rfl rfl) rfl rfl ?_
  refine XR_a (op_ld (by first | assumption | exact st.cell 0 rfl rfl | exact st.cell 1 rfl rfl | exact st.cell 2 rfl rfl | exact st.cell 3 rfl rfl) rfl rfl rfl) rfl rfl ?_
  first | refine XR_a (op_convI rfl rfl (by simp only [inK]; omega)) rfl rfl ?_ | refine XR_a (op_convU rfl rfl rfl) rfl rfl ?_ | refine XR_a (op_conv rfl rfl) rfl rfl ?_
  refine XR_wa (opl_call (fput_ref hc) rfl (by kernel_rfl)) rfl rfl rfl ?_
  rintro v2 hp st2
  obtain ⟨A2, n2, c2, rfl, hlen2, _, _, hrd2⟩ := st2.row 0 rfl
  replace st := st.ext st2.low
  refine XR_wa (opl_append st 0 rfl (hrd2) (hlen2) (one_bytes _) (by simp [leB_length, w4]) rfl rfl rfl rfl rfl rfl rfl) rfl rfl rfl fun v hp st => ?_
  simp only [List.set_cons_zero, List.set_cons_succ] at st
  rw [← List.map_append, w4] at st
  refine XR_a (op_assign rfl) rfl rfl ?_
  refine XR_nil ?_
  refine X_seq ?_
  refine X_reg ?_
  refine XR_a (op_assign rfl) rfl rfl ?_
  refine XR_nil ?_
  refine X_seq ?_
  refine X_seq ?_
  refine X_reg ?_
  first | refine XR_a (op_field0 rfl rfl) rfl rfl ?_ | refine XR_a (op_fieldn rfl rfl) rfl rfl ?_
  refine XR_a (op_ld (by first | assumption | exact st.cell 0 rfl rfl | exact st.cell 1 rfl rfl | exact st.cell 2 rfl rfl | exact st.cell 3 rfl rfl) rfl rfl rfl) rfl rfl ?_
  by_cases hcl : cl = true
  · subst hcl
    refine XR_nil ?_
    refine X_then rfl ?_
    refine X_reg ?_
    refine XR_a (op_assign rfl) rfl rfl ?_
    refine XR_nil ?_
    refine X_seq ?_
    refine X_reg ?_
    refine XR_a (op_move rfl) rfl rfl ?_
    refine XR_a (op_move rfl) rfl rfl ?_
    refine XR_wa (opl_var1 rfl rfl rfl) rfl rfl rfl ?_
    rintro _ hp ⟨A, rfl, hx, hrd⟩
    have st := st.ext hx
    refine XR_wa (opl_append st 0 rfl (hrd) (rfl) (by simp [Value.one, byteV]) (by simp [leB_length]) rfl rfl rfl rfl rfl rfl rfl) rfl rfl rfl fun v hp st => ?_
    simp only [List.set_cons_zero, List.set_cons_succ] at st
    have e17 : (([83, 76, 79, 84] : List UInt8) ++ leB 4 a ++ leB 4 b ++ leB 4 c).map byteV ++ [.int .u8 1] = (Slt.mk a b c true).head.map byteV := by simp [Slt.head, byteV]
    rw [e17] at st
    generalize hgen : Slt.mk (a : Int) b c true = s at *
    obtain ⟨A4, n4, c4, rfl, hlen4, _, _, _⟩ := st.row 0 rfl
    obtain rfl : n4 = s.head.length := by simp at hlen4; omega
    refine XR_wa (opl_call (summed_ref (st.rdS 0 rfl).2 rfl (by rw [Slt.head_length]; omega)) rfl (by kernel_rfl)) rfl rfl rfl ?_
    rintro v hp st4
    refine XR_a (op_assign rfl) rfl rfl ?_
    refine XR_nil ?_
    refine X_seq ?_
    replace st := st.join st4
    simp only [List.cons_append, List.nil_append] at st
    have hh := s.head_length
    obtain ⟨A6, n6, c6, rfl, hlen6, _, _, _⟩ := st.row 0 rfl
    obtain rfl : n6 = 21 := by simp [leB_length, hh] at hlen6; omega
    refine X_reg ?_
    refine XR_a (op_move rfl) rfl rfl ?_
    refine XR_a (op_move rfl) rfl rfl ?_
    refine XR_a (op_len rfl rfl rfl) rfl rfl ?_
    refine XR_a (op_subN (m := 512) (n := 21) rfl rfl (by omega) (by simp only [inK]; omega)) rfl rfl ?_
    refine XR_wa (opl_appendZ (m := 491) st 0 rfl (by simp [hh]; omega) (by omega) rfl (by simp [leB_length, hh]) rfl rfl rfl rfl rfl rfl) rfl rfl rfl fun v hp st => ?_
    simp only [List.set_cons_zero, List.set_cons_succ] at st
    refine XR_a (op_assign rfl) rfl rfl ?_
    refine XR_nil ?_
    refine X_ret (.cons (.tmp rfl) .nil) ?_
    have e : (s.head ++ leB 4 (sumN s.head)).map byteV ++ List.replicate 491 (.int .u8 0) = s.bytes.map byteV := by
      simp only [Slt.bytes, List.map_append, List.map_replicate]; rfl
    rw [e] at st
    exact st.only
  · obtain rfl : cl = false := by simpa using hcl
    refine XR_nil ?_
    refine X_else rfl ?_
    refine X_skip ?_
    refine X_seq ?_
    refine X_reg ?_
    refine XR_a (op_move rfl) rfl rfl ?_
    refine XR_a (op_move rfl) rfl rfl ?_
    refine XR_wa (opl_var1 rfl rfl rfl) rfl rfl rfl ?_
    rintro _ hp ⟨A, rfl, hx, hrd⟩
    have st := st.ext hx
    refine XR_wa (opl_append st 0 rfl (hrd) (rfl) (by simp [Value.one, byteV]) (by simp [leB_length]) rfl rfl rfl rfl rfl rfl rfl) rfl rfl rfl fun v hp st => ?_
    simp only [List.set_cons_zero, List.set_cons_succ] at st
    have e17 : (([83, 76, 79, 84] : List UInt8) ++ leB 4 a ++ leB 4 b ++ leB 4 c).map byteV ++ [.int .u8 0] = (Slt.mk a b c false).head.map byteV := by simp [Slt.head, byteV]
    rw [e17] at st
    generalize hgen : Slt.mk (a : Int) b c false = s at *
    obtain ⟨A4, n4, c4, rfl, hlen4, _, _, _⟩ := st.row 0 rfl
    obtain rfl : n4 = s.head.length := by simp at hlen4; omega
    refine XR_wa (opl_call (summed_ref (st.rdS 0 rfl).2 rfl (by rw [Slt.head_length]; omega)) rfl (by kernel_rfl)) rfl rfl rfl ?_
    rintro v hp st4
    refine XR_a (op_assign rfl) rfl rfl ?_
    refine XR_nil ?_
    refine X_seq ?_
    replace st := st.join st4
    simp only [List.cons_append, List.nil_append] at st
    have hh := s.head_length
    obtain ⟨A6, n6, c6, rfl, hlen6, _, _, _⟩ := st.row 0 rfl
    obtain rfl : n6 = 21 := by simp [leB_length, hh] at hlen6; omega
    refine X_reg ?_
    refine XR_a (op_move rfl) rfl rfl ?_
    refine XR_a (op_move rfl) rfl rfl ?_
    refine XR_a (op_len rfl rfl rfl) rfl rfl ?_
    refine XR_a (op_subN (m := 512) (n := 21) rfl rfl (by omega) (by simp only [inK]; omega)) rfl rfl ?_
    refine XR_wa (opl_appendZ (m := 491) st 0 rfl (by simp [hh]; omega) (by omega) rfl (by simp [leB_length, hh]) rfl rfl rfl rfl rfl rfl) rfl rfl rfl fun v hp st => ?_
    simp only [List.set_cons_zero, List.set_cons_succ] at st
    refine XR_a (op_assign rfl) rfl rfl ?_
    refine XR_nil ?_
    refine X_ret (.cons (.tmp rfl) .nil) ?_
    have e : (s.head ++ leB 4 (sumN s.head)).map byteV ++ List.replicate 491 (.int .u8 0) = s.bytes.map byteV := by
      simp only [Slt.bytes, List.map_append, List.map_replicate]; rfl
    rw [e] at st
    exact st.only

theorem tmod_two (a : Int) : a.tmod 2 ≠ 0 ↔ a % 2 = 1 := by
  have h1 := Int.tmod_add_mul_tdiv a 2
  have h2 := Int.tmod_lt_of_pos a (show (0 : Int) < 2 by omega)
  have h3 : -2 < a.tmod 2 := Int.lt_tmod_of_pos a (by omega)
  omega

theorem slotPuts_ok {a b c : Nat} {cl : Bool} {h0 : Heap} (hs : (Slt.mk a b c cl).right) : Ret Try.prog 9 [.agg #[.int .i64 (a : Int), .int .i64 (b : Int), .int .i64 (c : Int), .bool cl]] h0 fun v h' => v = .bool true ∧ Ext h0 h' := by
  have hs' := hs
  simp only [Slt.right] at hs'
  have ha : a < 4294967296 := by omega
  refine ret_of_X Try.func9 rfl rfl fun w0 hw0 => ?_
  simp only [argE, Nat.zero_add, Nat.reduceAdd]
  have st := St.start h0
  refine X_seq ?_
  refine X_reg ?_
  refine XR_wa (opl_bx rfl rfl) rfl rfl rfl ?_
  rintro _ hp ⟨p, rfl, hnew⟩
  have st := st.new hnew
  refine XR_a (op_assign rfl) rfl rfl ?_
  refine XR_nil ?_
  refine X_seq ?_
  refine X_reg ?_
  refine XR_wa (opl_call (make_spec _) rfl (by kernel_rfl)) rfl rfl rfl ?_
  rintro _ hp ⟨rfl, hx⟩
  replace st := st.ext hx
  refine XR_wa (opl_new (zs := List.replicate 256 (.int .u32 0)) (by kernel_rfl)) rfl rfl rfl ?_
  rintro _ hp ⟨tp, rfl, hnew⟩
  replace st := st.new hnew
  refine XR_wn (opl_store_whole st 0 rfl rfl rfl rfl (by rw [tabV_length]; rfl) tabV_one (by rw [tabV_length, List.length_replicate])) rfl rfl fun _ hp st => ?_
  simp only [List.set_cons_zero, List.set_cons_succ] at st
  refine XR_nil ?_
  refine X_seq ?_
  refine X_reg ?_
  refine XR_a (op_ldA (st.cells 1 rfl) rfl rfl rfl rfl) rfl rfl ?_
  refine XR_wa (opl_call (sput_ok (st.tab 0 rfl) hs) rfl (by kernel_rfl)) rfl rfl rfl ?_
  rintro _ hp ⟨v1, rfl, st2⟩
  replace st := st.join st2
  simp only [List.cons_append, List.nil_append] at st
  obtain ⟨A1, n1, c1, rfl, hlen1, hnc1, _, hrd1⟩ := st.row 0 rfl
  have hbl := (Slt.mk a b c cl).bytes_length
  obtain rfl : n1 = 512 := by rw [List.length_map, hbl] at hlen1; omega
  refine XR_a (op_move rfl) rfl rfl ?_
  refine XR_a (op_extract rfl rfl) rfl rfl ?_
  refine XR_a (op_extract rfl rfl) rfl rfl ?_
  refine XR_a (op_assign rfl) rfl rfl ?_
  refine XR_a (op_assign rfl) rfl rfl ?_
  refine XR_nil ?_
  refine X_seq ?_
  refine X_reg ?_
  refine XR_a (op_ldA (st.cells 2 rfl) rfl rfl rfl rfl) rfl rfl ?_
  refine XR_wa (opl_call (sright_ref _ _ _ _ _) rfl (by kernel_rfl)) rfl rfl rfl ?_
  rintro _ hp ⟨rfl, hx3⟩
  replace st := st.ext hx3
  rw [decide_eq_true hs]
  refine XR_a (op_assign rfl) rfl rfl ?_
  refine XR_nil ?_
  refine X_seq ?_
  refine X_reg ?_
  refine XR_a (op_assign rfl) rfl rfl ?_
  refine XR_nil ?_
  refine X_seq ?_
  refine X_seq ?_
  refine X_reg ?_
  first | refine XR_a (op_field0 rfl rfl) rfl rfl ?_ | refine XR_a (op_fieldn rfl rfl) rfl rfl ?_
  refine XR_a (op_ld (st.cell 2 (i := 0) rfl rfl) rfl rfl rfl) rfl rfl ?_
  first | refine XR_a (op_remN (n := 2) rfl rfl (by omega)) rfl rfl ?_ | refine XR_a (op_remI rfl rfl (by omega) (by omega)) rfl rfl ?_ | refine XR_a (op_rem rfl rfl (by omega)) rfl rfl ?_
  refine XR_a (op_neq rfl rfl) rfl rfl ?_
  refine XR_nil ?_
  refine X_if rfl (fun h => ?_) (fun h => ?_)
  · refine X_reg ?_
    refine XR_a (op_assign rfl) rfl rfl ?_
    refine XR_nil ?_
    refine X_seq ?_
    refine X_seq ?_
    refine X_reg ?_
    refine XR_a (op_ldA (st.cells 2 rfl) rfl rfl rfl rfl) rfl rfl ?_
    refine XR_wa (opl_call (sright_spec _ _ _ _ _) rfl (by kernel_rfl)) rfl rfl rfl ?_
    rintro _ hp ⟨rfl, hx3⟩
    replace st := st.ext hx3
    rw [decide_eq_true hs]
    refine XR_a (op_move rfl) rfl rfl ?_
    refine XR_a (op_neqB rfl rfl rfl) rfl rfl ?_
    refine XR_as (.bool false) rfl ?_
    refine XR_a (op_move rfl) rfl rfl ?_
    first | refine XR_a (op_field0 rfl rfl) rfl rfl ?_ | refine XR_a (op_fieldn rfl rfl) rfl rfl ?_
    refine XR_a (op_ld (st.cell 2 (i := 0) rfl rfl) rfl rfl rfl) rfl rfl ?_
    refine XR_wa (opl_call (splace_spec (a := a) (by simp only [inK]; omega) _) rfl (by kernel_rfl)) rfl rfl rfl ?_
    rintro _ _ ⟨rfl, rfl⟩
    refine XR_a (op_move rfl) rfl rfl ?_
    rw [if_pos (by omega)]
    refine XR_a (op_neq rfl rfl) rfl rfl ?_
    refine XR_as (.bool false) rfl ?_
    refine XR_a (op_pick_f rfl rfl) rfl rfl ?_
    refine XR_nil ?_
    refine X_else rfl ?_
    refine X_skip ?_
    refine X_seq ?_
    refine X_seq ?_
    refine X_reg ?_
    refine XR_a (op_move rfl) rfl rfl ?_
    refine XR_a (op_not rfl) rfl rfl ?_
    refine XR_nil ?_
    refine X_else rfl ?_
    refine X_skip ?_
    refine X_seq ?_
    refine X_draw (butAt [(6, .grow), (11, .grow)]) (by kernel_rfl) (by kernel_rfl) ?_
    refine XR_a (op_move rfl) rfl rfl ?_
    refine XR_a (op_eql rfl rfl) rfl rfl ?_
    refine XR_as (.bool true) rfl ?_
    refine XR_a (op_move rfl) rfl rfl ?_
    refine XR_a (op_move rfl) rfl rfl ?_
    refine XR_a (op_str (st.rdS 0 rfl).2 rfl hbl rfl rfl rfl) rfl rfl ?_
    refine XR_a (op_ldA (st.cells 2 rfl) rfl rfl rfl rfl) rfl rfl ?_
    refine XR_ga (opl_call (sput_ref hs) rfl (by kernel_rfl)) rfl rfl rfl (fun _ _ h => h.low) ?_
    rintro v5 hp st5
    obtain ⟨A5, n5, c5, rfl, hlen5, _, _, hrd5⟩ := st5.row 0 rfl
    replace st := st.ext st5.low
    refine XR_a (op_str hrd5 rfl (by simpa using hlen5) rfl rfl rfl) rfl rfl ?_
    refine XR_a (op_eqlS rfl rfl) rfl rfl ?_
    refine XR_a (op_pick_t rfl rfl) rfl rfl ?_
    refine XR_a (op_move rfl) rfl rfl ?_
    refine XR_if 53 rfl (fun h => ?_) (fun h => ?_)
    · refine XR_ga (opl_call (lives21 _) rfl (by kernel_rfl)) rfl rfl rfl (fun _ _ h => h.2) ?_
      rintro _ hp ⟨rfl, hx⟩
      refine XR_a (op_pick_t rfl rfl) rfl rfl ?_
      refine XR_a (op_assign rfl) rfl rfl ?_
      refine XR_nil ?_
      refine X_ret (.cons (.tmp rfl) .nil) ?_
      exact ⟨rfl, st.low.trans (hx.mono st.low.size)⟩
    · exact absurd rfl h
  · refine X_skip ?_
    refine X_seq ?_
    refine X_seq ?_
    refine X_reg ?_
    refine XR_a (op_ldA (st.cells 2 rfl) rfl rfl rfl rfl) rfl rfl ?_
    refine XR_wa (opl_call (sright_spec _ _ _ _ _) rfl (by kernel_rfl)) rfl rfl rfl ?_
    rintro _ hp ⟨rfl, hx3⟩
    replace st := st.ext hx3
    rw [decide_eq_true hs]
    refine XR_a (op_move rfl) rfl rfl ?_
    refine XR_a (op_neqB rfl rfl rfl) rfl rfl ?_
    refine XR_as (.bool false) rfl ?_
    refine XR_a (op_move rfl) rfl rfl ?_
    first | refine XR_a (op_field0 rfl rfl) rfl rfl ?_ | refine XR_a (op_fieldn rfl rfl) rfl rfl ?_
    refine XR_a (op_ld (st.cell 2 (i := 0) rfl rfl) rfl rfl rfl) rfl rfl ?_
    refine XR_wa (opl_call (splace_spec (a := a) (by simp only [inK]; omega) _) rfl (by kernel_rfl)) rfl rfl rfl ?_
    rintro _ _ ⟨rfl, rfl⟩
    refine XR_a (op_move rfl) rfl rfl ?_
    rw [if_neg (by omega)]
    refine XR_a (op_neq rfl rfl) rfl rfl ?_
    refine XR_as (.bool false) rfl ?_
    refine XR_a (op_pick_f rfl rfl) rfl rfl ?_
    refine XR_nil ?_
    refine X_else rfl ?_
    refine X_skip ?_
    refine X_seq ?_
    refine X_seq ?_
    refine X_reg ?_
    refine XR_a (op_move rfl) rfl rfl ?_
    refine XR_a (op_not rfl) rfl rfl ?_
    refine XR_nil ?_
    refine X_else rfl ?_
    refine X_skip ?_
    refine X_seq ?_
    refine X_draw (butAt [(6, .grow), (11, .grow)]) (by kernel_rfl) (by kernel_rfl) ?_
    refine XR_a (op_move rfl) rfl rfl ?_
    refine XR_a (op_eql rfl rfl) rfl rfl ?_
    refine XR_as (.bool true) rfl ?_
    refine XR_a (op_move rfl) rfl rfl ?_
    refine XR_a (op_move rfl) rfl rfl ?_
    refine XR_a (op_str (st.rdS 0 rfl).2 rfl hbl rfl rfl rfl) rfl rfl ?_
    refine XR_a (op_ldA (st.cells 2 rfl) rfl rfl rfl rfl) rfl rfl ?_
    refine XR_ga (opl_call (sput_ref hs) rfl (by kernel_rfl)) rfl rfl rfl (fun _ _ h => h.low) ?_
    rintro v5 hp st5
    obtain ⟨A5, n5, c5, rfl, hlen5, _, _, hrd5⟩ := st5.row 0 rfl
    replace st := st.ext st5.low
    refine XR_a (op_str hrd5 rfl (by simpa using hlen5) rfl rfl rfl) rfl rfl ?_
    refine XR_a (op_eqlS rfl rfl) rfl rfl ?_
    refine XR_a (op_pick_t rfl rfl) rfl rfl ?_
    refine XR_a (op_move rfl) rfl rfl ?_
    refine XR_if 53 rfl (fun h => ?_) (fun h => ?_)
    · refine XR_ga (opl_call (lives21 _) rfl (by kernel_rfl)) rfl rfl rfl (fun _ _ h => h.2) ?_
      rintro _ hp ⟨rfl, hx⟩
      refine XR_a (op_pick_t rfl rfl) rfl rfl ?_
      refine XR_a (op_assign rfl) rfl rfl ?_
      refine XR_nil ?_
      refine X_ret (.cons (.tmp rfl) .nil) ?_
      exact ⟨rfl, st.low.trans (hx.mono st.low.size)⟩
    · exact absurd rfl h

theorem slotPuts_bad {a b c : Int} {cl : Bool} {h0 : Heap} (hs : ¬ (Slt.mk a b c cl).right) (ha : inK .i64 a) : Ret Try.prog 9 [.agg #[.int .i64 a, .int .i64 b, .int .i64 c, .bool cl]] h0 fun v h' => v = .bool true ∧ Ext h0 h' := by
  have htm := tmod_two a
  refine ret_of_X Try.func9 rfl rfl fun w0 hw0 => ?_
  simp only [argE, Nat.zero_add, Nat.reduceAdd]
  have st := St.start h0
  refine X_seq ?_
  refine X_reg ?_
  refine XR_wa (opl_bx rfl rfl) rfl rfl rfl ?_
  rintro _ hp ⟨p, rfl, hnew⟩
  have st := st.new hnew
  refine XR_a (op_assign rfl) rfl rfl ?_
  refine XR_nil ?_
  refine X_seq ?_
  refine X_reg ?_
  refine XR_wa (opl_call (make_spec _) rfl (by kernel_rfl)) rfl rfl rfl ?_
  rintro _ hp ⟨rfl, hx⟩
  replace st := st.ext hx
  refine XR_wa (opl_new (zs := List.replicate 256 (.int .u32 0)) (by kernel_rfl)) rfl rfl rfl ?_
  rintro _ hp ⟨tp, rfl, hnew⟩
  replace st := st.new hnew
  refine XR_wn (opl_store_whole st 0 rfl rfl rfl rfl (by rw [tabV_length]; rfl) tabV_one (by rw [tabV_length, List.length_replicate])) rfl rfl fun _ hp st => ?_
  simp only [List.set_cons_zero, List.set_cons_succ] at st
  refine XR_nil ?_
  refine X_seq ?_
  refine X_reg ?_
  refine XR_a (op_ldA (st.cells 1 rfl) rfl rfl rfl rfl) rfl rfl ?_
  refine XR_wa (opl_call (sput_bad hs) rfl (by kernel_rfl)) rfl rfl rfl ?_
  rintro _ hp ⟨rfl, hx2⟩
  replace st := st.ext hx2
  refine XR_a (op_move rfl) rfl rfl ?_
  refine XR_a (op_extract rfl rfl) rfl rfl ?_
  refine XR_a (op_extract rfl rfl) rfl rfl ?_
  refine XR_a (op_assign rfl) rfl rfl ?_
  refine XR_a (op_assign rfl) rfl rfl ?_
  refine XR_nil ?_
  refine X_seq ?_
  refine X_reg ?_
  refine XR_a (op_ldA (st.cells 1 rfl) rfl rfl rfl rfl) rfl rfl ?_
  refine XR_wa (opl_call (sright_ref _ _ _ _ _) rfl (by kernel_rfl)) rfl rfl rfl ?_
  rintro _ hp ⟨rfl, hx3⟩
  replace st := st.ext hx3
  rw [decide_eq_false hs]
  refine XR_a (op_assign rfl) rfl rfl ?_
  refine XR_nil ?_
  refine X_seq ?_
  refine X_reg ?_
  refine XR_a (op_assign rfl) rfl rfl ?_
  refine XR_nil ?_
  refine X_seq ?_
  refine X_seq ?_
  refine X_reg ?_
  first | refine XR_a (op_field0 rfl rfl) rfl rfl ?_ | refine XR_a (op_fieldn rfl rfl) rfl rfl ?_
  refine XR_a (op_ld (st.cell 1 (i := 0) rfl rfl) rfl rfl rfl) rfl rfl ?_
  refine XR_a (op_rem rfl rfl (by omega)) rfl rfl ?_
  refine XR_a (op_neq rfl rfl) rfl rfl ?_
  refine XR_nil ?_
  refine X_if rfl (fun h => ?_) (fun h => ?_)
  · refine X_reg ?_
    refine XR_a (op_assign rfl) rfl rfl ?_
    refine XR_nil ?_
    refine X_seq ?_
    refine X_seq ?_
    refine X_reg ?_
    refine XR_a (op_ldA (st.cells 1 rfl) rfl rfl rfl rfl) rfl rfl ?_
    refine XR_wa (opl_call (sright_spec _ _ _ _ _) rfl (by kernel_rfl)) rfl rfl rfl ?_
    rintro _ hp ⟨rfl, hx3⟩
    replace st := st.ext hx3
    rw [decide_eq_false hs]
    refine XR_a (op_move rfl) rfl rfl ?_
    refine XR_a (op_neqB rfl rfl rfl) rfl rfl ?_
    refine XR_as (.bool false) rfl ?_
    refine XR_a (op_move rfl) rfl rfl ?_
    first | refine XR_a (op_field0 rfl rfl) rfl rfl ?_ | refine XR_a (op_fieldn rfl rfl) rfl rfl ?_
    refine XR_a (op_ld (st.cell 1 (i := 0) rfl rfl) rfl rfl rfl) rfl rfl ?_
    refine XR_wa (opl_call (splace_spec ha _) rfl (by kernel_rfl)) rfl rfl rfl ?_
    rintro _ _ ⟨rfl, rfl⟩
    refine XR_a (op_move rfl) rfl rfl ?_
    rw [if_pos (htm.1 h)]
    refine XR_a (op_neq rfl rfl) rfl rfl ?_
    refine XR_as (.bool false) rfl ?_
    refine XR_a (op_pick_f rfl rfl) rfl rfl ?_
    refine XR_nil ?_
    refine X_else rfl ?_
    refine X_skip ?_
    refine X_seq ?_
    refine X_seq ?_
    refine X_reg ?_
    refine XR_a (op_move rfl) rfl rfl ?_
    refine XR_a (op_not rfl) rfl rfl ?_
    refine XR_nil ?_
    refine X_then rfl ?_
    refine X_seq ?_
    refine X_reg ?_
    refine XR_a (op_move rfl) rfl rfl ?_
    refine XR_a (op_eql rfl rfl) rfl rfl ?_
    refine XR_as (.bool true) rfl ?_
    refine XR_a (op_move rfl) rfl rfl ?_
    refine XR_a (op_move rfl) rfl rfl ?_
    refine XR_a (op_len rfl rfl rfl) rfl rfl ?_
    refine XR_a (op_eql rfl rfl) rfl rfl ?_
    refine XR_as (.bool true) rfl ?_
    refine XR_a (op_pick_t rfl rfl) rfl rfl ?_
    refine XR_a (op_move rfl) rfl rfl ?_
    refine XR_wa (opl_call (lives21 _) rfl (by kernel_rfl)) rfl rfl rfl ?_
    rintro _ hp ⟨rfl, hx⟩
    refine XR_a (op_pick_t rfl rfl) rfl rfl ?_
    refine XR_a (op_assign rfl) rfl rfl ?_
    refine XR_nil ?_
    refine X_ret (.cons (.tmp rfl) .nil) ?_
    exact ⟨rfl, st.low.trans (hx.mono st.low.size)⟩
  · refine X_skip ?_
    refine X_seq ?_
    refine X_seq ?_
    refine X_reg ?_
    refine XR_a (op_ldA (st.cells 1 rfl) rfl rfl rfl rfl) rfl rfl ?_
    refine XR_wa (opl_call (sright_spec _ _ _ _ _) rfl (by kernel_rfl)) rfl rfl rfl ?_
    rintro _ hp ⟨rfl, hx3⟩
    replace st := st.ext hx3
    rw [decide_eq_false hs]
    refine XR_a (op_move rfl) rfl rfl ?_
    refine XR_a (op_neqB rfl rfl rfl) rfl rfl ?_
    refine XR_as (.bool false) rfl ?_
    refine XR_a (op_move rfl) rfl rfl ?_
    first | refine XR_a (op_field0 rfl rfl) rfl rfl ?_ | refine XR_a (op_fieldn rfl rfl) rfl rfl ?_
    refine XR_a (op_ld (st.cell 1 (i := 0) rfl rfl) rfl rfl rfl) rfl rfl ?_
    refine XR_wa (opl_call (splace_spec ha _) rfl (by kernel_rfl)) rfl rfl rfl ?_
    rintro _ _ ⟨rfl, rfl⟩
    refine XR_a (op_move rfl) rfl rfl ?_
    rw [if_neg (fun hh => h (htm.2 hh))]
    refine XR_a (op_neq rfl rfl) rfl rfl ?_
    refine XR_as (.bool false) rfl ?_
    refine XR_a (op_pick_f rfl rfl) rfl rfl ?_
    refine XR_nil ?_
    refine X_else rfl ?_
    refine X_skip ?_
    refine X_seq ?_
    refine X_seq ?_
    refine X_reg ?_
    refine XR_a (op_move rfl) rfl rfl ?_
    refine XR_a (op_not rfl) rfl rfl ?_
    refine XR_nil ?_
    refine X_then rfl ?_
    refine X_seq ?_
    refine X_reg ?_
    refine XR_a (op_move rfl) rfl rfl ?_
    refine XR_a (op_eql rfl rfl) rfl rfl ?_
    refine XR_as (.bool true) rfl ?_
    refine XR_a (op_move rfl) rfl rfl ?_
    refine XR_a (op_move rfl) rfl rfl ?_
    refine XR_a (op_len rfl rfl rfl) rfl rfl ?_
    refine XR_a (op_eql rfl rfl) rfl rfl ?_
    refine XR_as (.bool true) rfl ?_
    refine XR_a (op_pick_t rfl rfl) rfl rfl ?_
    refine XR_a (op_move rfl) rfl rfl ?_
    refine XR_wa (opl_call (lives21 _) rfl (by kernel_rfl)) rfl rfl rfl ?_
    rintro _ hp ⟨rfl, hx⟩
    refine XR_a (op_pick_t rfl rfl) rfl rfl ?_
    refine XR_a (op_assign rfl) rfl rfl ?_
    refine XR_nil ?_
    refine X_ret (.cons (.tmp rfl) .nil) ?_
    exact ⟨rfl, st.low.trans (hx.mono st.low.size)⟩
theorem slotPuts_ret {a b c : Int} {cl : Bool} {h0 : Heap} (ha : inK .i64 a) : Ret Try.prog 9 [.agg #[.int .i64 a, .int .i64 b, .int .i64 c, .bool cl]] h0 fun v h' => v = .bool true ∧ Ext h0 h' := by
  by_cases hs : (Slt.mk a b c cl).right
  · have hs' := hs
    simp only [Slt.right] at hs'
    have h4 : 0 ≤ c := by obtain ⟨_, _, _, _, h5⟩ := hs'; split at h5 <;> omega
    obtain ⟨a, rfl⟩ : ∃ x : Nat, a = x := ⟨a.toNat, by omega⟩
    obtain ⟨b, rfl⟩ : ∃ x : Nat, b = x := ⟨b.toNat, by omega⟩
    obtain ⟨c, rfl⟩ : ∃ x : Nat, c = x := ⟨c.toNat, by omega⟩
    exact slotPuts_ok hs
  · exact slotPuts_bad hs ha
end Go.Bn
