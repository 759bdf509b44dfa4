/- Packed texts of a claim: what its theorem uses, joined. -/
import Derived.Test.YtoodeecmplpndaaPkS7x12
section
set_option linter.unusedVariables false
set_option linter.unusedSimpArgs false
set_option maxHeartbeats 4000000
set_option maxRecDepth 20000
namespace Go.Bn
open Go Proofs
theorem valP_bd {c : Kls} : 0 ≤ (valP c).1 ∧ (valP c).1 < 65536 := by
 unfold valP
 split
 ·rename_i v hv; have := valC_lt hv; simp only; omega
 ·simp
theorem matchT_eq (a b : Kls) (m : Bool) : matchT ⟨a, b, m⟩ = if (valP ⟨a.num - 257, a.bits, a.ext⟩).2 = true ∧ (valP b).2 = true ∧ (Tok.mk 0 ((valP ⟨a.num - 257, a.bits, a.ext⟩).1 + 3) ((valP b).1 + 1)).right then (Tok.mk 0 ((valP ⟨a.num - 257, a.bits, a.ext⟩).1 + 3) ((valP b).1 + 1), true) else (Tok.nil, false) := by
 unfold matchT valP
 simp only
 cases hx : valC ⟨a.num - 257, a.bits, a.ext⟩ with
 | none => simp
 | some x =>
  cases hy : valC b with
  | none => simp
  | some y => simp
theorem smatch_spec {a b : Kls} {m : Bool} (ha : 0 ≤ a.ext ∧ a.ext < 4294967296) (hb : 0 ≤ b.ext ∧ b.ext < 4294967296) (hn : 257 ≤ a.num ∧ a.num < 273) (h0 : Heap) : Ret Try.prog 96 [.agg #[.int .i64 a.num, .int .i64 a.bits, .int .u32 a.ext, .int .i64 b.num, .int .i64 b.bits, .int .u32 b.ext, .bool m]] h0 fun r h' => r = retVal [.agg (tokV (matchT ⟨a, b, m⟩).1).toArray, .bool (matchT ⟨a, b, m⟩).2] ∧ Ext h0 h' := by
 rw [matchT_eq]
 have bx := valP_bd (c := ⟨a.num - 257, a.bits, a.ext⟩)
 have by_ := valP_bd (c := b)
 refine ret_of_X Try.func96 rfl rfl fun w0 hw0 => ?_
 simp only [argE, Nat.zero_add, Nat.reduceAdd]
 have st := St.start h0
 refine X_seq (X_reg ?_)
 refine XR_wa (opl_bx rfl rfl) rfl rfl rfl ?_
 rintro _ hp ⟨p, rfl, hnew⟩
 have st := st.new hnew
 refine XR_wa (opl_new rfl) rfl rfl rfl ?_
 rintro _ hp ⟨pp1, rfl, hnew⟩
 replace st := st.new hnew
 refine XA rfl rfl rfl (XR_nil (X_seq (X_reg ?_)))
 first | refine XR_a (op_field0 rfl rfl) rfl rfl ?_ | refine XR_a (op_fieldn rfl rfl) rfl rfl ?_
 refine XR_a (op_ldA (st.part 1 0 [] (clsV a) (clsV b ++ [.bool m]) rfl rfl) rfl rfl rfl rfl) rfl rfl ?_
 refine XR_wa (opl_new rfl) rfl rfl rfl ?_
 rintro _ hp ⟨pp2, rfl, hnew⟩
 replace st := st.new hnew
 refine XR_wn (opl_store_whole (us := clsV a) st 0 rfl rfl rfl rfl rfl (clsV_one _) rfl) rfl rfl fun _ hp st => ?_
 simp only [List.set_cons_zero, List.set_cons_succ] at st
 refine XR_nil (X_seq (X_reg ?_))
 first | refine XR_a (op_field0 rfl rfl) rfl rfl ?_ | refine XR_a (op_fieldn rfl rfl) rfl rfl ?_
 refine XR_a (op_ld (st.cell 0 (i := 0) rfl rfl) rfl rfl rfl) rfl rfl ?_
 refine XR_a (op_subI rfl rfl (by simp only [inK]; omega)) rfl rfl ?_
 first | refine XR_a (op_field0 rfl rfl) rfl rfl ?_ | refine XR_a (op_fieldn rfl rfl) rfl rfl ?_
 refine XR_wn (opl_store_pt st 0 rfl rfl rfl rfl rfl (rfl)) rfl rfl fun _ hp st => ?_
 simp only [List.set_cons_zero, List.set_cons_succ] at st
 refine XR_nil (X_seq (X_reg ?_))
 refine XR_a (op_ldA (vs := clsV ⟨a.num - 257, a.bits, a.ext⟩) (st.cells 0 rfl) rfl rfl rfl rfl) rfl rfl ?_
 refine XR_wa (opl_call (sval_spec (c := ⟨a.num - 257, a.bits, a.ext⟩) ha _) rfl (by kernel_rfl)) rfl rfl rfl ?_
 rintro _ hp ⟨rfl, hx1⟩
 replace st := st.ext hx1
 refine XV rfl rfl rfl (XR_a (op_extract rfl rfl) rfl rfl (XR_a (op_extract rfl rfl) rfl rfl (XA rfl rfl rfl (XA rfl rfl rfl (XR_nil (X_seq (X_reg ?_)))))))
 first | refine XR_a (op_field0 rfl rfl) rfl rfl ?_ | refine XR_a (op_fieldn rfl rfl) rfl rfl ?_
 refine XR_a (op_ldA (st.part 2 3 (clsV a) (clsV b) [.bool m] rfl rfl) rfl rfl rfl rfl) rfl rfl ?_
 refine XR_wa (opl_call (sval_spec (c := b) hb _) rfl (by kernel_rfl)) rfl rfl rfl ?_
 rintro _ hp ⟨rfl, hx2⟩
 replace st := st.ext hx2
 generalize valP ⟨a.num - 257, a.bits, a.ext⟩ = X at *
 generalize valP b = Y at *
 refine XV rfl rfl rfl (XR_a (op_extract rfl rfl) rfl rfl (XR_a (op_extract rfl rfl) rfl rfl (XA rfl rfl rfl (XA rfl rfl rfl (XR_nil (X_seq (X_reg (XV rfl rfl rfl ?_))))))))
 refine XR_a (op_addI rfl rfl (by simp only [inK]; omega)) rfl rfl ?_
 refine XV rfl rfl rfl ?_
 refine XR_a (op_addI rfl rfl (by simp only [inK]; omega)) rfl rfl ?_
 refine XR_a (op_build (ps := [(1, .int .i64 (X.1 + 3)), (2, .int .i64 (Y.1 + 1))]) (cs := (tokV ⟨0, X.1 + 3, Y.1 + 1⟩).toArray) rfl rfl) rfl rfl ?_
 generalize Tok.mk 0 (X.1 + 3) (Y.1 + 1) = T at *
 refine XR_wa (opl_new rfl) rfl rfl rfl ?_
 rintro _ hp ⟨pp3, rfl, hnew⟩
 replace st := st.new hnew
 by_cases hX : X.2 = true
 ·have st := st
  refine XR_wn (opl_store_whole (us := tokV T) st 0 rfl rfl rfl rfl rfl (tokV_one _) rfl) rfl rfl fun _ hp st => ?_
  simp only [List.set_cons_zero, List.set_cons_succ] at st
  refine XR_nil (X_seq (X_seq (X_reg (XV rfl rfl rfl ?_))))
  by_cases hY : Y.2 = true
  ·have st := st
   refine XR_a (op_not rfl) rfl rfl ?_
   refine XR_as (.bool false) (by rw [hX]; rfl) ?_
   refine XV rfl rfl rfl (XV rfl rfl rfl ?_)
   refine XR_a (op_not rfl) rfl rfl ?_
   refine XR_as (.bool false) (by rw [hY]; rfl) ?_
   refine XR_a (op_pick_f rfl rfl) rfl rfl (XV rfl rfl rfl ?_)
   refine XR_a (op_ldA (st.cells 0 rfl) rfl rfl rfl rfl) rfl rfl ?_
   refine XR_wa (opl_call (tright_spec T _) rfl (by kernel_rfl)) rfl rfl rfl ?_
   rintro _ hp ⟨rfl, hx3⟩
   replace st := st.ext hx3
   first | refine XR_a (op_notd rfl) rfl rfl ?_ | refine XR_a (op_not rfl) rfl rfl ?_
   refine XR_a (op_pick_f rfl rfl) rfl rfl (XR_nil ?_)
   refine X_if rfl (fun h => ?_) (fun h => ?_)
   ·refine X_seq (X_reg ?_)
    refine XR_a (op_build (ps := []) (cs := (tokV Tok.nil).toArray) rfl rfl) rfl rfl ?_
    refine XR_wn (opl_store_whole (us := tokV Tok.nil) st 2 rfl rfl rfl rfl rfl (tokV_one _) rfl) rfl rfl fun _ hp st => ?_
    simp only [List.set_cons_zero, List.set_cons_succ] at st
    refine XA rfl rfl rfl (XR_nil ?_)
    refine X_ret (.cons (RV_agg (vs := tokV Tok.nil) rfl rfl rfl (st.cells 2 rfl)) (.cons (.tmp rfl) .nil)) ?_
    rw [if_neg (fun hh => h hh.2.2)]
    exact ⟨rfl, st.low⟩
   ·refine X_skip (X_seq (X_reg ?_))
    refine XR_a (op_ldA (st.cells 0 rfl) rfl rfl rfl rfl) rfl rfl ?_
    refine XR_wn (opl_store_whole (us := tokV T) st 2 rfl rfl rfl rfl rfl (tokV_one _) rfl) rfl rfl fun _ hp st => ?_
    simp only [List.set_cons_zero, List.set_cons_succ] at st
    refine XA rfl rfl rfl (XR_nil ?_)
    refine X_ret (.cons (RV_agg (vs := tokV T) rfl rfl rfl (st.cells 2 rfl)) (.cons (.tmp rfl) .nil)) ?_
    rw [if_pos ⟨hX, hY, Decidable.not_not.1 h⟩]
    exact ⟨rfl, st.low⟩
  ·have hY' : Y.2 = false := by simpa using hY
   refine XR_a (op_not rfl) rfl rfl ?_
   refine XR_as (.bool false) (by rw [hX]; rfl) ?_
   refine XV rfl rfl rfl (XV rfl rfl rfl ?_)
   refine XR_a (op_not rfl) rfl rfl ?_
   refine XR_as (.bool true) (by rw [hY']; rfl) ?_
   refine XR_a (op_pick_f rfl rfl) rfl rfl (XV rfl rfl rfl (XR_no rfl rfl (XR_no rfl rfl (XR_no rfl rfl (XR_a (op_pick_t rfl rfl) rfl rfl (XR_nil (X_then rfl (X_seq (X_reg ?_)))))))))
   refine XR_a (op_build (ps := []) (cs := (tokV Tok.nil).toArray) rfl rfl) rfl rfl ?_
   refine XR_wn (opl_store_whole (us := tokV Tok.nil) st 2 rfl rfl rfl rfl rfl (tokV_one _) rfl) rfl rfl fun _ hp st => ?_
   simp only [List.set_cons_zero, List.set_cons_succ] at st
   refine XA rfl rfl rfl (XR_nil ?_)
   refine X_ret (.cons (RV_agg (vs := tokV Tok.nil) rfl rfl rfl (st.cells 2 rfl)) (.cons (.tmp rfl) .nil)) ?_
   rw [if_neg (fun hh => hY hh.2.1)]
   exact ⟨rfl, st.low⟩
 ·have hX' : X.2 = false := by simpa using hX
  refine XR_wn (opl_store_whole (us := tokV T) st 0 rfl rfl rfl rfl rfl (tokV_one _) rfl) rfl rfl fun _ hp st => ?_
  simp only [List.set_cons_zero, List.set_cons_succ] at st
  refine XR_nil (X_seq (X_seq (X_reg (XV rfl rfl rfl ?_))))
  refine XR_a (op_not rfl) rfl rfl ?_
  refine XR_as (.bool true) (by rw [hX']; rfl) ?_
  refine XV rfl rfl rfl (XR_no rfl rfl (XR_no rfl rfl (XR_a (op_pick_t rfl rfl) rfl rfl (XV rfl rfl rfl (XR_no rfl rfl (XR_no rfl rfl (XR_no rfl rfl (XR_a (op_pick_t rfl rfl) rfl rfl (XR_nil ?_)))))))))
  refine X_then rfl (X_seq (X_reg ?_))
  refine XR_a (op_build (ps := []) (cs := (tokV Tok.nil).toArray) rfl rfl) rfl rfl ?_
  refine XR_wn (opl_store_whole (us := tokV Tok.nil) st 2 rfl rfl rfl rfl rfl (tokV_one _) rfl) rfl rfl fun _ hp st => ?_
  simp only [List.set_cons_zero, List.set_cons_succ] at st
  refine XA rfl rfl rfl (XR_nil ?_)
  refine X_ret (.cons (RV_agg (vs := tokV Tok.nil) rfl rfl rfl (st.cells 2 rfl)) (.cons (.tmp rfl) .nil)) ?_
  rw [if_neg (fun hh => hX hh.1)]
  exact ⟨rfl, st.low⟩
theorem joinT_m {a b : Kls} (h : 257 ≤ a.num ∧ a.num < 273) : joinT ⟨a, b, true⟩ = matchT ⟨a, b, true⟩ := by
 unfold joinT; rw [if_pos rfl, if_pos h]
theorem joinT_m0 {a b : Kls} (h : ¬ (257 ≤ a.num ∧ a.num < 273)) : joinT ⟨a, b, true⟩ = (Tok.nil, false) := by
 unfold joinT; rw [if_pos rfl, if_neg h]
theorem joinT_b {a b : Kls} (h : 0 ≤ a.num ∧ a.num < 256) (e : Sy.mk a b false = ⟨⟨a.num, 0, 0⟩, Kls.nil, false⟩) : joinT ⟨a, b, false⟩ = (⟨a.num, 0, 0⟩, true) := by
 unfold joinT; rw [if_neg (by simp), if_pos ⟨h.1, h.2, e⟩]
theorem joinT_b0 {a b : Kls} (h : ¬ (0 ≤ a.num ∧ a.num < 256 ∧ Sy.mk a b false = ⟨⟨a.num, 0, 0⟩, Kls.nil, false⟩)) : joinT ⟨a, b, false⟩ = (Tok.nil, false) := by
 unfold joinT; rw [if_neg (by simp), if_neg h]
theorem sjoin_t {a b : Kls} (ha : 0 ≤ a.ext ∧ a.ext < 4294967296) (hb : 0 ≤ b.ext ∧ b.ext < 4294967296) (h0 : Heap) : Ret Try.prog 68 [.agg #[.int .i64 a.num, .int .i64 a.bits, .int .u32 a.ext, .int .i64 b.num, .int .i64 b.bits, .int .u32 b.ext, .bool true]] h0 fun r h' => r = retVal [.agg (tokV (joinT ⟨a, b, true⟩).1).toArray, .bool (joinT ⟨a, b, true⟩).2] ∧ Ext h0 h' := by
 refine ret_of_X Try.func68 rfl rfl fun w0 hw0 => ?_
 simp only [argE, Nat.zero_add, Nat.reduceAdd]
 have st := St.start h0
 refine X_seq (X_reg ?_)
 refine XR_wa (opl_bx rfl rfl) rfl rfl rfl ?_
 rintro _ hp ⟨p, rfl, hnew⟩
 have st := st.new hnew
 refine XR_wa (opl_new rfl) rfl rfl rfl ?_
 rintro _ hp ⟨pp1, rfl, hnew⟩
 replace st := st.new hnew
 refine XA rfl rfl rfl (XR_nil (X_seq (X_seq (X_reg ?_))))
 first | refine XR_a (op_field0 rfl rfl) rfl rfl ?_ | refine XR_a (op_fieldn rfl rfl) rfl rfl ?_
 refine XR_a (op_ld (st.cell 1 (i := 6) rfl rfl) rfl rfl rfl) rfl rfl ?_
 refine XV rfl rfl rfl ?_
 first | refine XR_a (op_field0 rfl rfl) rfl rfl ?_ | refine XR_a (op_fieldn rfl rfl) rfl rfl ?_
 first | refine XR_a (op_field0 rfl rfl) rfl rfl ?_ | refine XR_a (op_fieldn rfl rfl) rfl rfl ?_
 refine XR_a (op_ld (st.cell 1 (i := 0) rfl rfl) rfl rfl rfl) rfl rfl ?_
 refine XR_a (op_geq rfl rfl) rfl rfl ?_
 refine XR_a (op_pick_t rfl rfl) rfl rfl (XV rfl rfl rfl ?_)
 refine XR_if 13 rfl (fun h => ?_) (fun h => ?_)
 ·first | refine XR_a (op_field0 rfl rfl) rfl rfl ?_ | refine XR_a (op_fieldn rfl rfl) rfl rfl ?_
  first | refine XR_a (op_field0 rfl rfl) rfl rfl ?_ | refine XR_a (op_fieldn rfl rfl) rfl rfl ?_
  refine XR_a (op_ld (st.cell 1 (i := 0) rfl rfl) rfl rfl rfl) rfl rfl ?_
  refine XR_a (op_lss rfl rfl) rfl rfl ?_
  refine XR_a (op_pick_t rfl rfl) rfl rfl (XR_nil ?_)
  refine X_if rfl (fun h => ?_) (fun h => ?_)
  ·rw [joinT_m (by omega)]
   refine X_seq (X_reg ?_)
   refine XR_a (op_ldA (vs := syV ⟨a, b, true⟩) (st.cells 1 rfl) rfl rfl rfl rfl) rfl rfl ?_
   refine XR_wa (opl_call (smatch_spec (a := a) (b := b) (m := true) ha hb (by omega) _) rfl (by kernel_rfl)) rfl rfl rfl ?_
   rintro _ hp ⟨rfl, hx1⟩
   replace st := st.ext hx1
   generalize matchT ⟨a, b, true⟩ = M at *
   refine XR_a (op_extract rfl rfl) rfl rfl (XR_a (op_extract rfl rfl) rfl rfl ?_)
   refine XR_wn (opl_store_whole (us := tokV M.1) st 0 rfl rfl rfl rfl rfl (tokV_one _) rfl) rfl rfl fun _ hp st => ?_
   simp only [List.set_cons_zero, List.set_cons_succ] at st
   refine XA rfl rfl rfl (XR_nil ?_)
   refine X_ret (.cons (RV_agg (vs := tokV M.1) rfl rfl rfl (st.cells 0 rfl)) (.cons (.tmp rfl) .nil)) ?_
   exact ⟨rfl, st.low⟩
  ·refine X_skip (X_seq (X_reg ?_))
   first | refine XR_a (op_field0 rfl rfl) rfl rfl ?_ | refine XR_a (op_fieldn rfl rfl) rfl rfl ?_
   first | refine XR_a (op_field0 rfl rfl) rfl rfl ?_ | refine XR_a (op_fieldn rfl rfl) rfl rfl ?_
   refine XR_a (op_ld (st.cell 1 (i := 0) rfl rfl) rfl rfl rfl) rfl rfl ?_
   refine XA rfl rfl rfl (XR_nil (X_seq (X_seq (X_reg ?_))))
   first | refine XR_a (op_field0 rfl rfl) rfl rfl ?_ | refine XR_a (op_fieldn rfl rfl) rfl rfl ?_
   refine XR_a (op_ld (st.cell 1 (i := 6) rfl rfl) rfl rfl rfl) rfl rfl ?_
   refine XV rfl rfl rfl (XR_no rfl rfl (XR_no rfl rfl (XR_a (op_pick_t rfl rfl) rfl rfl (XV rfl rfl rfl (XR_no rfl rfl (XR_no rfl rfl (XR_a (op_pick_t rfl rfl) rfl rfl (XV rfl rfl rfl (XR_no rfl rfl ?_)))))))))
   refine XR_no rfl rfl (XR_no rfl rfl (XR_no rfl rfl (XR_no rfl rfl (XR_a (op_pick_t rfl rfl) rfl rfl (XR_nil (X_then rfl (X_seq (X_reg ?_))))))))
   refine XR_a (op_build (ps := []) (cs := (tokV Tok.nil).toArray) rfl rfl) rfl rfl ?_
   refine XR_wn (opl_store_whole (us := tokV Tok.nil) st 0 rfl rfl rfl rfl rfl (tokV_one _) rfl) rfl rfl fun _ hp st => ?_
   simp only [List.set_cons_zero, List.set_cons_succ] at st
   refine XA rfl rfl rfl (XR_nil ?_)
   refine X_ret (.cons (RV_agg (vs := tokV Tok.nil) rfl rfl rfl (st.cells 0 rfl)) (.cons (.tmp rfl) .nil)) ?_
   rw [joinT_m0 (by omega)]
   exact ⟨rfl, st.low⟩
 ·refine XR_no rfl rfl (XR_no rfl rfl (XR_no rfl rfl (XR_no rfl rfl (XR_a (op_pick_f rfl rfl) rfl rfl (XR_nil (X_else rfl (X_skip (X_seq (X_reg ?_)))))))))
  first | refine XR_a (op_field0 rfl rfl) rfl rfl ?_ | refine XR_a (op_fieldn rfl rfl) rfl rfl ?_
  first | refine XR_a (op_field0 rfl rfl) rfl rfl ?_ | refine XR_a (op_fieldn rfl rfl) rfl rfl ?_
  refine XR_a (op_ld (st.cell 1 (i := 0) rfl rfl) rfl rfl rfl) rfl rfl ?_
  refine XA rfl rfl rfl (XR_nil (X_seq (X_seq (X_reg ?_))))
  first | refine XR_a (op_field0 rfl rfl) rfl rfl ?_ | refine XR_a (op_fieldn rfl rfl) rfl rfl ?_
  refine XR_a (op_ld (st.cell 1 (i := 6) rfl rfl) rfl rfl rfl) rfl rfl ?_
  refine XV rfl rfl rfl (XR_no rfl rfl (XR_no rfl rfl (XR_a (op_pick_t rfl rfl) rfl rfl (XV rfl rfl rfl (XR_no rfl rfl (XR_no rfl rfl (XR_a (op_pick_t rfl rfl) rfl rfl (XV rfl rfl rfl (XR_no rfl rfl ?_)))))))))
  refine XR_no rfl rfl (XR_no rfl rfl (XR_no rfl rfl (XR_no rfl rfl (XR_a (op_pick_t rfl rfl) rfl rfl (XR_nil (X_then rfl (X_seq (X_reg ?_))))))))
  refine XR_a (op_build (ps := []) (cs := (tokV Tok.nil).toArray) rfl rfl) rfl rfl ?_
  refine XR_wn (opl_store_whole (us := tokV Tok.nil) st 0 rfl rfl rfl rfl rfl (tokV_one _) rfl) rfl rfl fun _ hp st => ?_
  simp only [List.set_cons_zero, List.set_cons_succ] at st
  refine XA rfl rfl rfl (XR_nil ?_)
  refine X_ret (.cons (RV_agg (vs := tokV Tok.nil) rfl rfl rfl (st.cells 0 rfl)) (.cons (.tmp rfl) .nil)) ?_
  rw [joinT_m0 (by omega)]
  exact ⟨rfl, st.low⟩
theorem sjoin_f {a b : Kls} (h0 : Heap) : Ret Try.prog 68 [.agg #[.int .i64 a.num, .int .i64 a.bits, .int .u32 a.ext, .int .i64 b.num, .int .i64 b.bits, .int .u32 b.ext, .bool false]] h0 fun r h' => r = retVal [.agg (tokV (joinT ⟨a, b, false⟩).1).toArray, .bool (joinT ⟨a, b, false⟩).2] ∧ Ext h0 h' := by
 refine ret_of_X Try.func68 rfl rfl fun w0 hw0 => ?_
 simp only [argE, Nat.zero_add, Nat.reduceAdd]
 have st := St.start h0
 refine X_seq (X_reg ?_)
 refine XR_wa (opl_bx rfl rfl) rfl rfl rfl ?_
 rintro _ hp ⟨p, rfl, hnew⟩
 have st := st.new hnew
 refine XR_wa (opl_new rfl) rfl rfl rfl ?_
 rintro _ hp ⟨pp1, rfl, hnew⟩
 replace st := st.new hnew
 refine XA rfl rfl rfl (XR_nil (X_seq (X_seq (X_reg ?_))))
 first | refine XR_a (op_field0 rfl rfl) rfl rfl ?_ | refine XR_a (op_fieldn rfl rfl) rfl rfl ?_
 refine XR_a (op_ld (st.cell 1 (i := 6) rfl rfl) rfl rfl rfl) rfl rfl ?_
 refine XV rfl rfl rfl (XR_no rfl rfl (XR_no rfl rfl (XR_no rfl rfl (XR_no rfl rfl (XR_a (op_pick_f rfl rfl) rfl rfl (XV rfl rfl rfl (XR_no rfl rfl (XR_no rfl rfl (XR_no rfl rfl ?_)))))))))
 refine XR_no rfl rfl (XR_a (op_pick_f rfl rfl) rfl rfl (XR_nil (X_else rfl (X_skip (X_seq (X_reg ?_))))))
 first | refine XR_a (op_field0 rfl rfl) rfl rfl ?_ | refine XR_a (op_fieldn rfl rfl) rfl rfl ?_
 first | refine XR_a (op_field0 rfl rfl) rfl rfl ?_ | refine XR_a (op_fieldn rfl rfl) rfl rfl ?_
 refine XR_a (op_ld (st.cell 1 (i := 0) rfl rfl) rfl rfl rfl) rfl rfl ?_
 refine XA rfl rfl rfl (XR_nil (X_seq (X_seq (X_reg ?_))))
 first | refine XR_a (op_field0 rfl rfl) rfl rfl ?_ | refine XR_a (op_fieldn rfl rfl) rfl rfl ?_
 refine XR_a (op_ld (st.cell 1 (i := 6) rfl rfl) rfl rfl rfl) rfl rfl ?_
 refine XV rfl rfl rfl (XV rfl rfl rfl ?_)
 refine XR_a (op_lss rfl rfl) rfl rfl ?_
 refine XR_a (op_pick_f rfl rfl) rfl rfl (XV rfl rfl rfl ?_)
 refine XR_if 32 rfl (fun h => ?_) (fun h => ?_)
 ·refine XR_no rfl rfl (XR_no rfl rfl (XR_a (op_pick_t rfl rfl) rfl rfl (XV rfl rfl rfl (XR_no rfl rfl (XR_no rfl rfl (XR_no rfl rfl (XR_no rfl rfl (XR_no rfl rfl (XR_a (op_pick_t rfl rfl) rfl rfl ?_)))))))))
  refine XR_nil (X_then rfl (X_seq (X_reg ?_)))
  refine XR_a (op_build (ps := []) (cs := (tokV Tok.nil).toArray) rfl rfl) rfl rfl ?_
  refine XR_wn (opl_store_whole (us := tokV Tok.nil) st 0 rfl rfl rfl rfl rfl (tokV_one _) rfl) rfl rfl fun _ hp st => ?_
  simp only [List.set_cons_zero, List.set_cons_succ] at st
  refine XA rfl rfl rfl (XR_nil ?_)
  refine X_ret (.cons (RV_agg (vs := tokV Tok.nil) rfl rfl rfl (st.cells 0 rfl)) (.cons (.tmp rfl) .nil)) ?_
  first
   | rw [joinT_b0 (fun hh => by omega)]
   | rw [joinT_b0 (fun hh => h hh.2.2)]
  exact ⟨rfl, st.low⟩
 ·refine XV rfl rfl rfl ?_
  refine XR_a (op_geq rfl rfl) rfl rfl ?_
  refine XR_a (op_pick_f rfl rfl) rfl rfl (XV rfl rfl rfl ?_)
  refine XR_if 36 rfl (fun h => ?_) (fun h => ?_)
  ·refine XR_no rfl rfl (XR_no rfl rfl (XR_no rfl rfl (XR_no rfl rfl (XR_no rfl rfl (XR_a (op_pick_t rfl rfl) rfl rfl (XR_nil (X_then rfl (X_seq (X_reg ?_)))))))))
   refine XR_a (op_build (ps := []) (cs := (tokV Tok.nil).toArray) rfl rfl) rfl rfl ?_
   refine XR_wn (opl_store_whole (us := tokV Tok.nil) st 0 rfl rfl rfl rfl rfl (tokV_one _) rfl) rfl rfl fun _ hp st => ?_
   simp only [List.set_cons_zero, List.set_cons_succ] at st
   refine XA rfl rfl rfl (XR_nil ?_)
   refine X_ret (.cons (RV_agg (vs := tokV Tok.nil) rfl rfl rfl (st.cells 0 rfl)) (.cons (.tmp rfl) .nil)) ?_
   first
    | rw [joinT_b0 (fun hh => by omega)]
    | rw [joinT_b0 (fun hh => h hh.2.2)]
   exact ⟨rfl, st.low⟩
  ·refine XR_a (op_ldA (vs := syV ⟨a, b, false⟩) (st.cells 1 rfl) rfl rfl rfl rfl) rfl rfl ?_
   refine XV rfl rfl rfl ?_
   refine XR_a (op_build (ps := [(0, .int .i64 a.num)]) (cs := (clsV ⟨a.num, 0, 0⟩).toArray) rfl rfl) rfl rfl ?_
   refine XR_a (op_build (ps := [(0, .agg (clsV ⟨a.num, 0, 0⟩).toArray)]) (cs := (syV ⟨⟨a.num, 0, 0⟩, Kls.nil, false⟩).toArray) rfl rfl) rfl rfl ?_
   refine XR_a (op_neqH rfl rfl (neq_flat (ks := [.i .i64, .i .i64, .i .u32, .i .i64, .i .i64, .i .u32, .b]) (by kernel_rfl) (by kernel_rfl) rfl rfl) (by kernel_rfl)) rfl rfl ?_
   refine XR_as (.bool (decide (Sy.mk a b false ≠ ⟨⟨a.num, 0, 0⟩, Kls.nil, false⟩))) (congrArg Value.bool ?_) ?_
   ·rw [eqL_sy]; simp
   refine XR_a (op_pick_f rfl rfl) rfl rfl (XR_nil ?_)
   refine X_if rfl (fun h => ?_) (fun h => ?_)
   ·refine X_seq (X_reg ?_)
    refine XR_a (op_build (ps := []) (cs := (tokV Tok.nil).toArray) rfl rfl) rfl rfl ?_
    refine XR_wn (opl_store_whole (us := tokV Tok.nil) st 0 rfl rfl rfl rfl rfl (tokV_one _) rfl) rfl rfl fun _ hp st => ?_
    simp only [List.set_cons_zero, List.set_cons_succ] at st
    refine XA rfl rfl rfl (XR_nil ?_)
    refine X_ret (.cons (RV_agg (vs := tokV Tok.nil) rfl rfl rfl (st.cells 0 rfl)) (.cons (.tmp rfl) .nil)) ?_
    first
     | rw [joinT_b0 (fun hh => by omega)]
     | rw [joinT_b0 (fun hh => h hh.2.2)]
    exact ⟨rfl, st.low⟩
   ·refine X_skip (X_seq (X_reg (XV rfl rfl rfl ?_)))
    refine XR_a (op_convI rfl rfl (by simp only [inK]; omega)) rfl rfl ?_
    refine XR_a (op_build (ps := [(0, .int .u8 a.num)]) (cs := (tokV ⟨a.num, 0, 0⟩).toArray) rfl rfl) rfl rfl ?_
    refine XR_wn (opl_store_whole (us := tokV ⟨a.num, 0, 0⟩) st 0 rfl rfl rfl rfl rfl (tokV_one _) rfl) rfl rfl fun _ hp st => ?_
    simp only [List.set_cons_zero, List.set_cons_succ] at st
    refine XA rfl rfl rfl (XR_nil ?_)
    refine X_ret (.cons (RV_agg (vs := tokV ⟨a.num, 0, 0⟩) rfl rfl rfl (st.cells 0 rfl)) (.cons (.tmp rfl) .nil)) ?_
    rw [joinT_b (by omega) (Decidable.not_not.1 h)]
    exact ⟨rfl, st.low⟩
theorem sjoin_spec {r : Sy} (ha : 0 ≤ r.a.ext ∧ r.a.ext < 4294967296) (hb : 0 ≤ r.b.ext ∧ r.b.ext < 4294967296) (h0 : Heap) : Ret Try.prog 68 [.agg (syV r).toArray] h0 fun v h' => v = retVal [.agg (tokV (joinT r).1).toArray, .bool (joinT r).2] ∧ Ext h0 h' := by
 obtain ⟨a, b, m⟩ := r
 cases m with
 | true => exact sjoin_t ha hb h0
 | false => exact sjoin_f h0
end Go.Bn
end

section
set_option linter.unusedVariables false
set_option linter.unusedSimpArgs false
set_option maxHeartbeats 4000000
set_option maxRecDepth 20000
namespace Go.Bn
open Go Proofs
theorem St.keepF2 {B : Nat} {h0 hp : Heap} {r1 r2 r3 : Res} {F : List Res} (s : St B h0 hp (r1 :: r2 :: r3 :: F)) : St B h0 hp (r1 :: r2 :: F) :=
 (St.reF [r1, r2, r3] 3 s [2, 0, 1] (by decide)).tail
theorem bclass_spec {B p q m c a fr : Nat} {A : Option Addr} {l : List UInt8} {ls : List Nat} {F : List Res} {h0 : Heap} (st0 : St B h0 h0 (rdG q A m c a :: codeR p ls :: F)) (hok : lensOK ls) (hrB : ∀ h', Low B h0 h' → Rd h' A (l.map byteV)) (hl : l.length = m) (hm : m ≤ 1073741824) (ha : a ≤ 8 * m) (hfr : ls.length ≤ fr + 30) (hfr2 : fr ≤ 300) :
  Ret Try.prog 67 [.pointer (some ⟨q, 0, none⟩), .pointer (some ⟨p, 0, none⟩), nV fr] h0
   fun v h' => v = retVal [.agg (clsV (clsT ls fr (bitsB l) a).1).toArray, nV (clsT ls fr (bitsB l) a).2.2] ∧ St B h0 h' (rdG q A m c (clsT ls fr (bitsB l) a).2.1 :: codeR p ls :: F) := by
 have hbl := bitsB_length l
 have hC : clsT ls fr (bitsB l) a = _ := rfl
 unfold clsT at hC
 have hsm := takeC_small hok ((bitsB l).drop a)
 have hle := takeC_le ls ((bitsB l).drop a)
 have hsy := takeC_sym hok (bs := (bitsB l).drop a)
 rw [List.length_drop, hbl, hl] at hle
 obtain ⟨T, hT⟩ : ∃ T, takeC ls ((bitsB l).drop a) = T := ⟨_, rfl⟩
 rw [hT] at hC hsm hle hsy
 obtain ⟨C, hCe⟩ : ∃ C, clsT ls fr (bitsB l) a = C := ⟨_, rfl⟩
 rw [show clsT ls fr (bitsB l) a = C from hCe]
 unfold clsT at hCe
 rw [hT] at hCe
 clear hC
 rw [hbl, hl] at hCe
 have hok2 := hok.2.1
 refine ret_of_X Try.func67 rfl rfl fun w0 hw0 => ?_
 simp only [argE, Nat.zero_add, Nat.reduceAdd]
 have st := st0
 refine X_seq (X_reg ?_)
 refine XR_wa (opl_new rfl) rfl rfl rfl ?_
 rintro _ hp ⟨p6, rfl, hnew⟩
 replace st := st.new hnew
 replace st : St B h0 hp ([pt p6 78 (clsV Kls.nil), rdG q A m c a, codeR p ls] ++ F) := st
 replace st := St.reF _ 3 st [1, 2, 0] (by decide)
 simp only [List.map_cons, List.map_nil, getR, List.cons_append, List.nil_append] at st
 refine XA rfl rfl rfl (XR_nil (X_seq (X_reg (XV rfl rfl rfl (XV rfl rfl rfl ?_)))))
 refine XR_wa (opl_call (ctake_spec st.here hok (hrB _ st.low) hl (by omega) ha) rfl (by kernel_rfl)) rfl rfl rfl ?_
 rintro _ hp ⟨rfl, st2⟩
 rw [hT] at st2 ⊢
 replace st := st.trans st2
 clear st2
 refine XV rfl rfl rfl (XR_a (op_extract rfl rfl) rfl rfl (XR_a (op_extract rfl rfl) rfl rfl (XA rfl rfl rfl (XA rfl rfl rfl (XR_nil (X_seq (X_seq (X_reg (XV rfl rfl rfl ?_)))))))))
 refine XR_a (op_neq rfl rfl) rfl rfl ?_
 refine XV rfl rfl rfl ?_
 refine XR_if 23 rfl (fun h => ?_) (fun h => ?_)
 ·rw [if_pos (by omega)] at hCe
  subst hCe
  refine XR_no rfl rfl (XR_no rfl rfl (XR_no rfl rfl (XR_a (op_pick_t rfl rfl) rfl rfl (XR_nil (X_then rfl (X_seq (X_reg (XV rfl rfl rfl ?_))))))))
  refine XR_a (op_build (ps := [(0, nV T.1)]) (cs := (clsV ⟨T.1, 0, 0⟩).toArray) rfl rfl) rfl rfl ?_
  refine XV rfl rfl rfl ?_
  refine XR_wn (opl_store_whole (us := clsV ⟨T.1, 0, 0⟩) st 2 rfl rfl rfl rfl rfl (clsV_one _) rfl) rfl rfl fun _ hp st => ?_
  simp only [List.set_cons_zero, List.set_cons_succ] at st
  refine XA rfl rfl rfl (XR_nil ?_)
  refine X_ret (.cons (RV_agg (vs := clsV _) rfl rfl rfl (st.cells 2 rfl)) (.cons (.tmp rfl) .nil)) ?_
  refine ⟨rfl, ?_⟩
  exact St.keepF2 st
 ·refine XV rfl rfl rfl (XV rfl rfl rfl ?_)
  refine XR_a (op_lss rfl rfl) rfl rfl ?_
  refine XR_a (op_pick_f rfl rfl) rfl rfl (XR_nil ?_)
  refine X_if rfl (fun h => ?_) (fun h => ?_)
  ·rw [if_pos (by omega)] at hCe
   subst hCe
   refine X_seq (X_reg (XV rfl rfl rfl ?_))
   refine XR_a (op_build (ps := [(0, nV T.1)]) (cs := (clsV ⟨T.1, 0, 0⟩).toArray) rfl rfl) rfl rfl ?_
   refine XV rfl rfl rfl ?_
   refine XR_wn (opl_store_whole (us := clsV ⟨T.1, 0, 0⟩) st 2 rfl rfl rfl rfl rfl (clsV_one _) rfl) rfl rfl fun _ hp st => ?_
   simp only [List.set_cons_zero, List.set_cons_succ] at st
   refine XA rfl rfl rfl (XR_nil ?_)
   refine X_ret (.cons (RV_agg (vs := clsV _) rfl rfl rfl (st.cells 2 rfl)) (.cons (.tmp rfl) .nil)) ?_
   refine ⟨rfl, ?_⟩
   exact St.keepF2 st
  ·have hT0 : T.2.2 = 0 := by omega
   have hTl : T.1 < ls.length := (hsy hT0).1
   have hbc : bitsC (T.1 - fr) ≤ 13 := by unfold bitsC; split <;> omega
   rw [if_neg (by omega)] at hCe
   have hwd : wd 32 ((bitsC (T.1 - fr) : Nat) : Int) = bitsC (T.1 - fr) := wd_nat (by omega)
   refine X_skip (X_seq (X_reg (XV rfl rfl rfl (XV rfl rfl rfl ?_))))
   first | refine XR_a (op_subN rfl rfl (by omega) (by simp only [inK]; omega)) rfl rfl ?_ | refine XR_a (op_subI rfl rfl (by simp only [inK]; omega)) rfl rfl ?_ | refine XR_a (op_sub rfl rfl) rfl rfl ?_
   refine XR_wa (opl_call (sbase_yes (i := T.1 - fr) (by omega) (by omega) _) rfl (by kernel_rfl)) rfl rfl rfl ?_
   rintro _ _ ⟨rfl, rfl⟩
   refine XV rfl rfl rfl (XR_a (op_extract rfl rfl) rfl rfl (XR_a (op_extract rfl rfl) rfl rfl (XR_a (op_extract rfl rfl) rfl rfl (XA rfl rfl rfl (XA rfl rfl rfl (XA rfl rfl rfl (XR_nil (X_seq (X_reg ?_)))))))))
   refine XV rfl rfl rfl (XV rfl rfl rfl ?_)
   refine XR_wa (opl_call (rtake_spec (k := ((bitsC (T.1 - fr) : Nat) : Int)) st.here (hrB _ st.low) hl (by omega) (by omega)) rfl (by kernel_rfl)) rfl rfl rfl ?_
   rintro _ hp ⟨rfl, st2⟩
   rw [hwd] at st2 ⊢
   replace st := st.trans st2
   clear st2
   refine XV rfl rfl rfl (XR_a (op_extract rfl rfl) rfl rfl (XR_a (op_extract rfl rfl) rfl rfl (XA rfl rfl rfl (XA rfl rfl rfl (XR_nil (X_seq (X_seq (X_reg (XV rfl rfl rfl ?_)))))))))
   first | refine XR_a (op_notd rfl) rfl rfl ?_ | refine XR_a (op_not rfl) rfl rfl ?_
   refine XR_nil ?_
   refine X_if rfl (fun h => ?_) (fun h => ?_)
   ·have hn : ¬ bitsC (T.1 - fr) ≤ 8 * m - (a + T.2.1) := by simpa using h
    rw [if_neg hn] at st
    rw [if_pos (by omega)] at hCe
    subst hCe
    refine X_seq (X_reg ?_)
    refine XR_a (op_build (ps := []) (cs := (clsV Kls.nil).toArray) rfl rfl) rfl rfl ?_
    refine XR_wn (opl_store_whole (us := clsV Kls.nil) st 2 rfl rfl rfl rfl rfl (clsV_one _) rfl) rfl rfl fun _ hp st => ?_
    simp only [List.set_cons_zero, List.set_cons_succ] at st
    refine XA rfl rfl rfl (XR_nil ?_)
    refine X_ret (.cons (RV_agg (vs := clsV _) rfl rfl rfl (st.cells 2 rfl)) (.cons (.tmp rfl) .nil)) ?_
    exact ⟨rfl, St.keepF2 st⟩
   ·have hn : bitsC (T.1 - fr) ≤ 8 * m - (a + T.2.1) := by simpa using h
    rw [if_pos hn] at st
    rw [if_neg (by omega)] at hCe
    subst hCe
    have hnl := numB_lt (bitsB l) (a + T.2.1) (bitsC (T.1 - fr))
    refine X_skip (X_seq (X_reg (XV rfl rfl rfl (XV rfl rfl rfl (XV rfl rfl rfl ?_)))))
    refine XR_a (op_build (ps := [(0, nV T.1), (1, nV (bitsC (T.1 - fr))), (2, .int .u32 ((numB (bitsB l) (a + T.2.1) (bitsC (T.1 - fr)) : Nat) : Int))]) (cs := (clsV ⟨T.1, bitsC (T.1 - fr), (numB (bitsB l) (a + T.2.1) (bitsC (T.1 - fr)) : Nat)⟩).toArray) (by rw [if_pos hn]; rfl) rfl) rfl rfl ?_
    refine XR_wn (opl_store_whole (us := clsV ⟨T.1, bitsC (T.1 - fr), (numB (bitsB l) (a + T.2.1) (bitsC (T.1 - fr)) : Nat)⟩) st 2 rfl rfl rfl rfl rfl (clsV_one _) rfl) rfl rfl fun _ hp st => ?_
    simp only [List.set_cons_zero, List.set_cons_succ] at st
    refine XA rfl rfl rfl (XR_nil ?_)
    refine X_ret (.cons (RV_agg (vs := clsV _) rfl rfl rfl (st.cells 2 rfl)) (.cons (.tmp rfl) .nil)) ?_
    exact ⟨rfl, St.keepF2 st⟩
theorem btoken_spec {B p1 p2 q m c a : Nat} {A : Option Addr} {l : List UInt8} {la lb : List Nat} {F : List Res} {h0 : Heap} (st0 : St B h0 h0 (rdG q A m c a :: codeR p1 la :: codeR p2 lb :: F)) (oka : lensOK la) (okb : lensOK lb) (na : la.length = 273) (nb : lb.length = 30) (hrB : ∀ h', Low B h0 h' → Rd h' A (l.map byteV)) (hl : l.length = m) (hm : m ≤ 1073741824) (ha : a ≤ 8 * m) :
  Ret Try.prog 44 [.pointer (some ⟨q, 0, none⟩), .pointer (some ⟨p1, 0, none⟩), .pointer (some ⟨p2, 0, none⟩)] h0
   fun v h' => v = retVal [.agg (tokV (nextT la lb (bitsB l) a).1).toArray, .bool (!(nextT la lb (bitsB l) a).2.2.1), nV (nextT la lb (bitsB l) a).2.2.2] ∧ St B h0 h' (rdG q A m c (nextT la lb (bitsB l) a).2.1 :: codeR p1 la :: codeR p2 lb :: F) := by
 have hbl := bitsB_length l
 obtain ⟨N, hN⟩ : ∃ N, nextT la lb (bitsB l) a = N := ⟨_, rfl⟩
 have hC1 := clsT_num (fr := 257) (bs := bitsB l) (a := a) oka (by omega) (by omega)
 have hA1 := clsT_at (fr := 257) (bs := bitsB l) (a := a) oka (by omega)
 rw [hN]
 unfold nextT at hN
 obtain ⟨C, hC⟩ : ∃ C, clsT la 257 (bitsB l) a = C := ⟨_, rfl⟩
 rw [hC] at hN hC1 hA1
 have hC2 := clsT_num (fr := 0) (bs := bitsB l) (a := C.2.1) okb (by omega) (by omega)
 obtain ⟨D, hD⟩ : ∃ D, clsT lb 0 (bitsB l) C.2.1 = D := ⟨_, rfl⟩
 rw [hD] at hN hC2
 refine ret_of_X Try.func44 rfl rfl fun w0 hw0 => ?_
 simp only [argE, Nat.zero_add, Nat.reduceAdd]
 have st := st0
 refine X_seq (X_reg ?_)
 refine XR_wa (opl_new rfl) rfl rfl rfl ?_
 rintro _ hp ⟨p6, rfl, hnew⟩
 replace st := st.new hnew
 replace st : St B h0 hp ([pt p6 64 (tokV Tok.nil), rdG q A m c a, codeR p1 la, codeR p2 lb] ++ F) := st
 replace st := St.reF _ 4 st [1, 2, 3, 0] (by decide)
 simp only [List.map_cons, List.map_nil, getR, List.cons_append, List.nil_append] at st
 refine XA rfl rfl rfl (XA rfl rfl rfl (XR_nil (X_seq (X_reg (XV rfl rfl rfl (XV rfl rfl rfl ?_))))))
 refine XR_wa (opl_call (bclass_spec (fr := 257) st.here oka (fun h' hh => hrB h' (st.low.trans hh)) hl hm ha (by omega) (by omega)) rfl (by kernel_rfl)) rfl rfl rfl ?_
 rintro _ hp ⟨rfl, st2⟩
 rw [hC] at st2 ⊢
 replace st := st.trans st2
 clear st2
 refine XV rfl rfl rfl (XR_a (op_extract rfl rfl) rfl rfl (XR_a (op_extract rfl rfl) rfl rfl ?_))
 refine XR_wa (opl_new rfl) rfl rfl rfl ?_
 rintro _ hp ⟨p9, rfl, hnew⟩
 replace st := st.new hnew
 replace st : St B h0 hp ([pt p9 78 (clsV Kls.nil), rdG q A m c C.2.1, codeR p1 la, codeR p2 lb, pt p6 64 (tokV Tok.nil)] ++ F) := st
 replace st := St.reF _ 5 st [1, 2, 3, 4, 0] (by decide)
 simp only [List.map_cons, List.map_nil, getR, List.cons_append, List.nil_append] at st
 refine XR_wn (opl_store_whole (us := clsV C.1) st 4 rfl rfl rfl rfl rfl (clsV_one _) rfl) rfl rfl fun _ hp st => ?_
 simp only [List.set_cons_zero, List.set_cons_succ] at st
 refine XA rfl rfl rfl (XR_nil (X_seq (X_seq (X_reg (XV rfl rfl rfl ?_)))))
 refine XR_a (op_neq rfl rfl) rfl rfl ?_
 refine XV rfl rfl rfl ?_
 refine XR_if 22 rfl (fun h => ?_) (fun h => ?_)
 ·rw [if_pos (by omega)] at hN
  subst hN
  refine XR_no rfl rfl (XR_no rfl rfl (XR_no rfl rfl (XR_a (op_pick_t rfl rfl) rfl rfl (XR_nil (X_then rfl (X_seq (X_reg ?_)))))))
  refine XR_a (op_build (ps := []) (cs := (tokV Tok.nil).toArray) rfl rfl) rfl rfl ?_
  refine XV rfl rfl rfl ?_
  refine XR_wn (opl_store_whole (us := tokV Tok.nil) st 3 rfl rfl rfl rfl rfl (tokV_one _) rfl) rfl rfl fun _ hp st => ?_
  simp only [List.set_cons_zero, List.set_cons_succ] at st
  refine XA rfl rfl rfl (XA rfl rfl rfl (XR_nil ?_))
  refine X_ret (.cons (RV_agg (vs := tokV _) rfl rfl rfl (st.cells 3 rfl)) (.cons (.tmp rfl) (.cons (.tmp rfl) .nil))) ?_
  exact ⟨rfl, (St.reF [_, _, _, _, _] 5 st [3, 4, 0, 1, 2] (by decide)).tail.tail⟩
 ·first | refine XR_a (op_field0 rfl rfl) rfl rfl ?_ | refine XR_a (op_fieldn rfl rfl) rfl rfl ?_
  refine XR_a (op_ld (st.cell 4 (i := 0) rfl rfl) rfl rfl rfl) rfl rfl ?_
  refine XR_a (op_eql rfl rfl) rfl rfl ?_
  refine XR_a (op_pick_f rfl rfl) rfl rfl (XR_nil ?_)
  refine X_if rfl (fun h => ?_) (fun h => ?_)
  ·rw [if_pos (by omega)] at hN
   subst hN
   refine X_seq (X_reg ?_)
   refine XR_a (op_build (ps := []) (cs := (tokV Tok.nil).toArray) rfl rfl) rfl rfl ?_
   refine XV rfl rfl rfl ?_
   refine XR_wn (opl_store_whole (us := tokV Tok.nil) st 3 rfl rfl rfl rfl rfl (tokV_one _) rfl) rfl rfl fun _ hp st => ?_
   simp only [List.set_cons_zero, List.set_cons_succ] at st
   refine XA rfl rfl rfl (XA rfl rfl rfl (XR_nil ?_))
   refine X_ret (.cons (RV_agg (vs := tokV _) rfl rfl rfl (st.cells 3 rfl)) (.cons (.tmp rfl) (.cons (.tmp rfl) .nil))) ?_
   exact ⟨rfl, (St.reF [_, _, _, _, _] 5 st [3, 4, 0, 1, 2] (by decide)).tail.tail⟩
  ·rw [if_neg (by omega)] at hN
   refine X_skip (X_seq (X_reg ?_))
   refine XR_a (op_ldA (vs := clsV C.1) (st.cells 4 rfl) rfl rfl rfl rfl) rfl rfl ?_
   refine XR_a (op_build (ps := [(0, .agg (clsV C.1).toArray)]) (cs := (syV ⟨C.1, Kls.nil, false⟩).toArray) rfl rfl) rfl rfl ?_
   refine XR_wa (opl_new rfl) rfl rfl rfl ?_
   rintro _ hp ⟨p11, rfl, hnew⟩
   replace st := st.new hnew
   replace st : St B h0 hp ([pt p11 80 (syV Sy.nil), rdG q A m c C.2.1, codeR p1 la, codeR p2 lb, pt p6 64 (tokV Tok.nil), pt p9 78 (clsV C.1)] ++ F) := st
   replace st := St.reF _ 6 st [1, 2, 3, 4, 5, 0] (by decide)
   simp only [List.map_cons, List.map_nil, getR, List.cons_append, List.nil_append] at st
   refine XR_wn (opl_store_whole (us := syV ⟨C.1, Kls.nil, false⟩) st 5 rfl rfl rfl rfl rfl (syV_one _) rfl) rfl rfl fun _ hp st => ?_
   simp only [List.set_cons_zero, List.set_cons_succ] at st
   refine XR_nil (X_seq (X_seq (X_reg ?_)))
   first | refine XR_a (op_field0 rfl rfl) rfl rfl ?_ | refine XR_a (op_fieldn rfl rfl) rfl rfl ?_
   refine XR_a (op_ld (st.cell 4 (i := 0) rfl rfl) rfl rfl rfl) rfl rfl ?_
   refine XR_a (op_gtr rfl rfl) rfl rfl ?_
   refine XR_nil ?_
   refine X_if rfl (fun h => ?_) (fun h => ?_)
   ·rw [if_pos (by omega)] at hN
    replace st := St.reF [_, _, _] 3 st [0, 2, 1] (by decide)
    simp only [List.map_cons, List.map_nil, getR, List.cons_append, List.nil_append] at st
    refine X_seq (X_seq (X_reg (XV rfl rfl rfl (XV rfl rfl rfl ?_))))
    refine XR_wa (opl_call (bclass_spec (fr := 0) st.here okb (fun h' hh => hrB h' (st.low.trans hh)) hl hm (by omega) (by omega) (by omega)) rfl (by kernel_rfl)) rfl rfl rfl ?_
    rintro _ hp ⟨rfl, st2⟩
    rw [hD] at st2 ⊢
    replace st := st.trans st2
    clear st2
    replace st := St.reF [_, _, _] 3 st [0, 2, 1] (by decide)
    simp only [List.map_cons, List.map_nil, getR, List.cons_append, List.nil_append] at st
    refine XV rfl rfl rfl (XR_a (op_extract rfl rfl) rfl rfl (XR_a (op_extract rfl rfl) rfl rfl ?_))
    first | refine XR_a (op_field0 rfl rfl) rfl rfl ?_ | refine XR_a (op_fieldn rfl rfl) rfl rfl ?_
    refine XR_wn (opl_store_pts (us := clsV D.1) st 5 rfl rfl rfl rfl rfl (clsV_one _) (by show 3 + 3 ≤ 7; omega)) rfl rfl fun _ hp st => ?_
    simp only [List.set_cons_zero, List.set_cons_succ] at st
    replace st : St B h0 hp (rdG q A m c D.2.1 :: codeR p1 la :: codeR p2 lb :: pt p6 64 (tokV Tok.nil) :: pt p9 78 (clsV C.1) :: pt p11 80 (syV ⟨C.1, D.1, false⟩) :: F) := st
    refine XA rfl rfl rfl (XR_nil (X_seq (X_reg (XV rfl rfl rfl ?_))))
    refine XR_a (op_neq rfl rfl) rfl rfl ?_
    refine XR_nil ?_
    refine X_if rfl (fun h => ?_) (fun h => ?_)
    ·rw [if_pos (by omega)] at hN
     subst hN
     refine X_seq (X_reg ?_)
     refine XR_a (op_build (ps := []) (cs := (tokV Tok.nil).toArray) rfl rfl) rfl rfl ?_
     refine XV rfl rfl rfl ?_
     refine XR_wn (opl_store_whole (us := tokV Tok.nil) st 3 rfl rfl rfl rfl rfl (tokV_one _) rfl) rfl rfl fun _ hp st => ?_
     simp only [List.set_cons_zero, List.set_cons_succ] at st
     refine XA rfl rfl rfl (XA rfl rfl rfl (XR_nil ?_))
     refine X_ret (.cons (RV_agg (vs := tokV _) rfl rfl rfl (st.cells 3 rfl)) (.cons (.tmp rfl) (.cons (.tmp rfl) .nil))) ?_
     exact ⟨rfl, (St.reF [_, _, _, _, _, _] 6 st [3, 4, 5, 0, 1, 2] (by decide)).tail.tail.tail⟩
    ·rw [if_neg (by omega)] at hN
     obtain ⟨J, hJ⟩ : ∃ J, joinT ⟨C.1, D.1, true⟩ = J := ⟨_, rfl⟩
     rw [hJ] at hN
     refine X_skip (X_reg ?_)
     first | refine XR_a (op_field0 rfl rfl) rfl rfl ?_ | refine XR_a (op_fieldn rfl rfl) rfl rfl ?_
     refine XR_wn (opl_store_pt st 5 rfl rfl rfl rfl rfl (rfl)) rfl rfl fun _ hp st => ?_
     simp only [List.set_cons_zero, List.set_cons_succ] at st
     refine XR_nil (X_seq (X_reg ?_))
     refine XR_a (op_ldA (vs := syV ⟨C.1, D.1, true⟩) (st.cells 5 rfl) rfl rfl rfl rfl) rfl rfl ?_
     refine XR_wa (opl_call (sjoin_spec (r := ⟨C.1, D.1, true⟩) ⟨hC1.2.2.1, hC1.2.2.2⟩ ⟨hC2.2.2.1, hC2.2.2.2⟩ _) rfl (by kernel_rfl)) rfl rfl rfl ?_
     rintro _ hp ⟨rfl, hx5⟩
     replace st := st.ext hx5
     rw [hJ]
     refine XV rfl rfl rfl (XR_a (op_extract rfl rfl) rfl rfl (XR_a (op_extract rfl rfl) rfl rfl ?_))
     refine XR_wa (opl_new rfl) rfl rfl rfl ?_
     rintro _ hp ⟨p12, rfl, hnew⟩
     replace st := st.new hnew
     replace st := St.reF [_, _, _, _, _, _, _] 7 st [1, 2, 3, 4, 0, 5, 6] (by decide)
     simp only [List.map_cons, List.map_nil, getR, List.cons_append, List.nil_append] at st
     refine XR_wn (opl_store_whole (us := tokV J.1) st 4 rfl rfl rfl rfl rfl (tokV_one _) rfl) rfl rfl fun _ hp st => ?_
     simp only [List.set_cons_zero, List.set_cons_succ] at st
     refine XA rfl rfl rfl (XR_nil (X_seq (X_seq (X_reg (XV rfl rfl rfl ?_)))))
     first | refine XR_a (op_notd rfl) rfl rfl ?_ | refine XR_a (op_not rfl) rfl rfl ?_
     refine XR_nil ?_
     refine X_cond rfl (fun h => ?_) (fun h => ?_)
     ·rw [if_neg (by simpa using h)] at hN
      subst hN
      refine X_seq (X_reg ?_)
      refine XR_a (op_build (ps := []) (cs := (tokV Tok.nil).toArray) rfl rfl) rfl rfl ?_
      refine XR_wn (opl_store_whole (us := tokV Tok.nil) st 3 rfl rfl rfl rfl rfl (tokV_one _) rfl) rfl rfl fun _ hp st => ?_
      simp only [List.set_cons_zero, List.set_cons_succ] at st
      refine XA rfl rfl rfl (XA rfl rfl rfl (XR_nil ?_))
      refine X_ret (.cons (RV_agg (vs := tokV _) rfl rfl rfl (st.cells 3 rfl)) (.cons (.tmp rfl) (.cons (.tmp rfl) .nil))) ?_
      exact ⟨rfl, (St.reF [_, _, _, _, _, _, _] 7 st [3, 4, 5, 6, 0, 1, 2] (by decide)).tail.tail.tail.tail⟩
     ·rw [if_pos (by simpa using h)] at hN
      subst hN
      refine X_skip (X_seq (X_reg ?_))
      refine XR_a (op_ldA (vs := tokV J.1) (st.cells 4 rfl) rfl rfl rfl rfl) rfl rfl ?_
      refine XR_wn (opl_store_whole (us := tokV J.1) st 3 rfl rfl rfl rfl rfl (tokV_one _) rfl) rfl rfl fun _ hp st => ?_
      simp only [List.set_cons_zero, List.set_cons_succ] at st
      refine XA rfl rfl rfl (XA rfl rfl rfl (XR_nil ?_))
      refine X_ret (.cons (RV_agg (vs := tokV _) rfl rfl rfl (st.cells 3 rfl)) (.cons (.tmp rfl) (.cons (.tmp rfl) .nil))) ?_
      exact ⟨rfl, (St.reF [_, _, _, _, _, _, _] 7 st [3, 4, 5, 6, 0, 1, 2] (by decide)).tail.tail.tail.tail⟩
   ·rw [if_neg (by omega)] at hN
    obtain ⟨J, hJ⟩ : ∃ J, joinT ⟨C.1, Kls.nil, false⟩ = J := ⟨_, rfl⟩
    rw [hJ] at hN
    refine X_skip (X_seq (X_reg ?_))
    refine XR_a (op_ldA (vs := syV ⟨C.1, Kls.nil, false⟩) (st.cells 5 rfl) rfl rfl rfl rfl) rfl rfl ?_
    refine XR_wa (opl_call (sjoin_spec (r := ⟨C.1, Kls.nil, false⟩) ⟨hC1.2.2.1, hC1.2.2.2⟩ ⟨Int.le_refl 0, by show (0 : Int) < 4294967296; omega⟩ _) rfl (by kernel_rfl)) rfl rfl rfl ?_
    rintro _ hp ⟨rfl, hx5⟩
    replace st := st.ext hx5
    rw [hJ]
    refine XV rfl rfl rfl (XR_a (op_extract rfl rfl) rfl rfl (XR_a (op_extract rfl rfl) rfl rfl ?_))
    refine XR_wa (opl_new rfl) rfl rfl rfl ?_
    rintro _ hp ⟨p12, rfl, hnew⟩
    replace st := st.new hnew
    replace st := St.reF [_, _, _, _, _, _, _] 7 st [1, 2, 3, 4, 0, 5, 6] (by decide)
    simp only [List.map_cons, List.map_nil, getR, List.cons_append, List.nil_append] at st
    refine XR_wn (opl_store_whole (us := tokV J.1) st 4 rfl rfl rfl rfl rfl (tokV_one _) rfl) rfl rfl fun _ hp st => ?_
    simp only [List.set_cons_zero, List.set_cons_succ] at st
    refine XA rfl rfl rfl (XR_nil (X_seq (X_seq (X_reg (XV rfl rfl rfl ?_)))))
    first | refine XR_a (op_notd rfl) rfl rfl ?_ | refine XR_a (op_not rfl) rfl rfl ?_
    refine XR_nil ?_
    refine X_cond rfl (fun h => ?_) (fun h => ?_)
    ·rw [if_neg (by simpa using h)] at hN
     subst hN
     refine X_seq (X_reg ?_)
     refine XR_a (op_build (ps := []) (cs := (tokV Tok.nil).toArray) rfl rfl) rfl rfl ?_
     refine XR_wn (opl_store_whole (us := tokV Tok.nil) st 3 rfl rfl rfl rfl rfl (tokV_one _) rfl) rfl rfl fun _ hp st => ?_
     simp only [List.set_cons_zero, List.set_cons_succ] at st
     refine XA rfl rfl rfl (XA rfl rfl rfl (XR_nil ?_))
     refine X_ret (.cons (RV_agg (vs := tokV _) rfl rfl rfl (st.cells 3 rfl)) (.cons (.tmp rfl) (.cons (.tmp rfl) .nil))) ?_
     exact ⟨rfl, (St.reF [_, _, _, _, _, _, _] 7 st [3, 4, 5, 6, 0, 1, 2] (by decide)).tail.tail.tail.tail⟩
    ·rw [if_pos (by simpa using h)] at hN
     subst hN
     refine X_skip (X_seq (X_reg ?_))
     refine XR_a (op_ldA (vs := tokV J.1) (st.cells 4 rfl) rfl rfl rfl rfl) rfl rfl ?_
     refine XR_wn (opl_store_whole (us := tokV J.1) st 3 rfl rfl rfl rfl rfl (tokV_one _) rfl) rfl rfl fun _ hp st => ?_
     simp only [List.set_cons_zero, List.set_cons_succ] at st
     refine XA rfl rfl rfl (XA rfl rfl rfl (XR_nil ?_))
     refine X_ret (.cons (RV_agg (vs := tokV _) rfl rfl rfl (st.cells 3 rfl)) (.cons (.tmp rfl) (.cons (.tmp rfl) .nil))) ?_
     exact ⟨rfl, (St.reF [_, _, _, _, _, _, _] 7 st [3, 4, 5, 6, 0, 1, 2] (by decide)).tail.tail.tail.tail⟩
theorem bcodes_spec {B q m c a : Nat} {A : Option Addr} {l : List UInt8} {F : List Res} {h0 : Heap} (st0 : St B h0 h0 (rdG q A m c a :: F)) (hrB : ∀ h', Low B h0 h' → Rd h' A (l.map byteV)) (hl : l.length = m) (hm : m ≤ 1073741824) (ha : a ≤ 8 * m) :
  Ret Try.prog 43 [.pointer (some ⟨q, 0, none⟩)] h0 fun v h' => ∃ w1 w2 a', v = retVal [w1, w2, nV (codesT (bitsB l) a).1] ∧ a' ≤ 8 * m ∧ St B h0 h' (rdG q A m c a' :: F) ∧
   ((codesT (bitsB l) a).1 = 0 → a' = (codesT (bitsB l) a).2.2.2 ∧ ∃ p1 p2, w1 = .pointer (some ⟨p1, 0, none⟩) ∧ w2 = .pointer (some ⟨p2, 0, none⟩) ∧ St B h0 h' (rdG q A m c a' :: codeR p1 (codesT (bitsB l) a).2.1 :: codeR p2 (codesT (bitsB l) a).2.2.1 :: F)) := by
 obtain ⟨N, hN⟩ : ∃ N, codesT (bitsB l) a = N := ⟨_, rfl⟩
 rw [hN]
 unfold codesT at hN
 obtain ⟨X, hX⟩ : ∃ X, takeR (bitsB l) a (okR (bitsB l) a) = X := ⟨_, rfl⟩
 rw [hX] at hN
 obtain ⟨Y, hY⟩ : ∃ Y, takeR (bitsB l) X.2.1 (okR (bitsB l) X.2.1) = Y := ⟨_, rfl⟩
 rw [hY] at hN
 have hmn : ∀ z : List Nat, z.map nV = (castI z).map iV := fun z => by unfold castI; rw [List.map_map]; rfl
 refine ret_of_X Try.func43 rfl rfl fun w0 hw0 => ?_
 simp only [argE, Nat.zero_add, Nat.reduceAdd]
 have st := st0
 refine X_seq (X_reg (XA rfl rfl rfl (XA rfl rfl rfl (XA rfl rfl rfl (XR_nil (X_seq (X_reg (XV rfl rfl rfl ?_))))))))
 refine XR_wa (opl_call (rtake_runs st.here (fun h' hh => hrB h' (st.low.trans hh)) hl hm ha) rfl (by kernel_rfl)) rfl rfl rfl ?_
 rintro _ hp1 ⟨w1, a1, rfl, ha1, hat, st⟩
 rw [hX] at hat st ⊢
 obtain ⟨A1, n1, c1, rfl, hl1, _⟩ := st.row 0 rfl
 rw [List.length_map, Nat.mul_one] at hl1
 refine XV rfl rfl rfl (XR_a (op_extract rfl rfl) rfl rfl (XR_a (op_extract rfl rfl) rfl rfl (XA rfl rfl rfl (XA rfl rfl rfl (XR_nil (X_seq (X_seq (X_reg (XV rfl rfl rfl ?_)))))))))
 refine XR_a (op_neq rfl rfl) rfl rfl ?_
 refine XR_nil ?_
 refine X_if rfl (fun h => ?_) (fun h => ?_)
 ·rw [if_pos (by omega)] at hN
  subst hN
  refine X_seq (X_reg (XV rfl rfl rfl (XA rfl rfl rfl (XA rfl rfl rfl (XA rfl rfl rfl (XR_nil ?_))))))
  refine X_ret (.cons (.tmp rfl) (.cons (.tmp rfl) (.cons (.tmp rfl) .nil))) ?_
  exact ⟨_, _, a1, rfl, ha1, st.tail, fun h9 => absurd h9 (by simp only; omega)⟩
 ·rw [if_neg (by omega)] at hN
  obtain rfl := hat (by omega)
  replace st := st.perm (List.Perm.swap _ _ _)
  refine X_skip (X_seq (X_reg (XV rfl rfl rfl ?_)))
  refine XR_wa (opl_call (rtake_runs st.here (fun h' hh => hrB h' (st.low.trans hh)) hl hm ha1) rfl (by kernel_rfl)) rfl rfl rfl ?_
  rintro _ hp2 ⟨w2, a2, rfl, ha2, hat2, st2⟩
  rw [hY] at hat2 st2 ⊢
  replace st := st.trans st2
  clear st2
  obtain ⟨A2, n2, c2, rfl, hl2, _⟩ := st.row 0 rfl
  rw [List.length_map, Nat.mul_one] at hl2
  refine XV rfl rfl rfl (XR_a (op_extract rfl rfl) rfl rfl (XR_a (op_extract rfl rfl) rfl rfl (XA rfl rfl rfl (XA rfl rfl rfl (XR_nil (X_seq (X_block (X_seq (X_reg ?_)))))))))
  refine XV rfl rfl rfl ?_
  refine XR_a (op_neq rfl rfl) rfl rfl ?_
  refine XA rfl rfl rfl (XR_nil ?_)
  refine X_if rfl (fun h => ?_) (fun h => ?_)
  ·rw [if_pos (by omega)] at hN
   subst hN
   refine X_seq (X_reg (XV rfl rfl rfl (XA rfl rfl rfl (XA rfl rfl rfl (XA rfl rfl rfl (XR_nil ?_))))))
   refine X_ret (.cons (.tmp rfl) (.cons (.tmp rfl) (.cons (.tmp rfl) .nil))) ?_
   exact ⟨_, _, a2, rfl, ha2, (St.reF [_, _, _] 3 st [0, 2, 1] (by decide)).tail.tail, fun h9 => absurd h9 (by simp only; omega)⟩
  ·rw [if_neg (by omega)] at hN
   obtain rfl := hat2 (by omega)
   refine X_seq (X_reg (XV rfl rfl rfl ?_))
   refine XR_a (op_len rfl rfl rfl) rfl rfl ?_
   refine XR_a (op_neq rfl rfl) rfl rfl ?_
   refine XV rfl rfl rfl ?_
   refine XR_if 28 rfl (fun h => ?_) (fun h => ?_)
   ·rw [if_pos (by omega)] at hN
    subst hN
    refine XR_no rfl rfl (XR_no rfl rfl (XR_no rfl rfl (XR_a (op_pick_t rfl rfl) rfl rfl (XA rfl rfl rfl (XR_nil (X_then rfl (X_seq (X_reg (XA rfl rfl rfl ?_)))))))))
    refine XA rfl rfl rfl (XA rfl rfl rfl (XR_nil ?_))
    refine X_ret (.cons (.tmp rfl) (.cons (.tmp rfl) (.cons (.tmp rfl) .nil))) ?_
    exact ⟨_, _, _, rfl, ha2, (St.reF [_, _, _] 3 st [0, 2, 1] (by decide)).tail.tail, fun h9 => absurd h9 (by decide)⟩
   ·refine XV rfl rfl rfl ?_
    refine XR_a (op_len rfl rfl rfl) rfl rfl ?_
    refine XR_a (op_neq rfl rfl) rfl rfl ?_
    refine XR_a (op_pick_f rfl rfl) rfl rfl (XA rfl rfl rfl (XR_nil ?_))
    refine X_if rfl (fun h => ?_) (fun h => ?_)
    ·rw [if_pos (by omega)] at hN
     subst hN
     refine X_seq (X_reg (XA rfl rfl rfl (XA rfl rfl rfl (XA rfl rfl rfl (XR_nil ?_)))))
     refine X_ret (.cons (.tmp rfl) (.cons (.tmp rfl) (.cons (.tmp rfl) .nil))) ?_
     exact ⟨_, _, _, rfl, ha2, (St.reF [_, _, _] 3 st [0, 2, 1] (by decide)).tail.tail, fun h9 => absurd h9 (by decide)⟩
    ·rw [if_neg (by omega)] at hN
     refine X_skip (X_blk (X_seq (X_seq (X_reg (XV rfl rfl rfl ?_)))))
     refine XR_wa (opl_call (cnew_spec (li := castI X.1) (by rw [← hmn]; exact (st.rdS 2 rfl).2) (by unfold castI; rw [List.length_map]; exact hl1) (by omega)) rfl (by kernel_rfl)) rfl rfl rfl ?_
     rintro _ hp3 ⟨w3, rfl, hx3, hy3, hz3⟩
     rw [castI_toNat] at hy3
     refine XV rfl rfl rfl (XR_a (op_extract rfl rfl) rfl rfl (XR_a (op_extract rfl rfl) rfl rfl (XA rfl rfl rfl (XA rfl rfl rfl (XR_nil (X_seq (X_reg (XV rfl rfl rfl ?_))))))))
     refine XR_a (op_neq rfl rfl) rfl rfl ?_
     refine XR_nil ?_
     refine X_if rfl (fun h => ?_) (fun h => ?_)
     ·have hR1 : ¬ rightC (castI X.1) := fun hh => absurd (errC_zero.2 hh) h
      rw [if_pos (.inl hR1)] at hN
      subst hN
      replace st := st.ext hx3
      refine X_seq (X_reg (XV rfl rfl rfl (XA rfl rfl rfl (XA rfl rfl rfl (XA rfl rfl rfl (XR_nil ?_))))))
      refine X_ret (.cons (.tmp rfl) (.cons (.tmp rfl) (.cons (.tmp rfl) .nil))) ?_
      rw [show errC (castI X.1) = 13 by unfold errC; rw [if_neg hR1]]
      exact ⟨_, _, _, rfl, ha2, (St.reF [_, _, _] 3 st [0, 2, 1] (by decide)).tail.tail, fun h9 => absurd h9 (by decide)⟩
     ·have hR1 : rightC (castI X.1) := errC_zero.1 (Classical.not_not.1 h)
      obtain ⟨p1, rfl, st3⟩ := hy3 hR1
      have stx := st.ext hx3
      replace st := st.join st3
      simp only [List.cons_append, List.nil_append] at st
      refine X_skip (X_seq (X_reg (XV rfl rfl rfl ?_)))
      refine XR_wa (opl_call (cnew_spec (li := castI Y.1) (by rw [← hmn]; exact (st.rdS 1 rfl).2) (by unfold castI; rw [List.length_map]; exact hl2) (by omega)) rfl (by kernel_rfl)) rfl rfl rfl ?_
      rintro _ hp4 ⟨w4, rfl, hx4, hy4, hz4⟩
      rw [castI_toNat] at hy4
      refine XV rfl rfl rfl (XR_a (op_extract rfl rfl) rfl rfl (XR_a (op_extract rfl rfl) rfl rfl (XA rfl rfl rfl (XA rfl rfl rfl (XR_nil (X_seq (X_reg (XV rfl rfl rfl (XV rfl rfl rfl ?_)))))))))
      refine XV rfl rfl rfl (XA rfl rfl rfl (XA rfl rfl rfl (XA rfl rfl rfl (XR_nil ?_))))
      refine X_ret (.cons (.tmp rfl) (.cons (.tmp rfl) (.cons (.tmp rfl) .nil))) ?_
      by_cases hR2 : rightC (castI Y.1)
      ·rw [if_neg (by rintro (h | h) <;> exact h (by assumption))] at hN
       subst hN
       obtain ⟨p2, rfl, st4⟩ := hy4 hR2
       have sty := (St.reF [_, _, _] 3 (stx.ext hx4) [0, 2, 1] (by decide)).tail.tail
       replace st := st.join st4
       simp only [List.cons_append, List.nil_append] at st
       replace st := (St.reF [_, _, _, _, _] 5 st [2, 4, 3, 1, 0] (by decide)).tail.tail
       rw [show errC (castI Y.1) = 0 by unfold errC; rw [if_pos hR2]]
       exact ⟨_, _, _, rfl, ha2, sty, fun _ => ⟨rfl, p1, p2, rfl, rfl, st⟩⟩
      ·rw [if_pos (.inr hR2)] at hN
       subst hN
       rw [show errC (castI Y.1) = 13 by unfold errC; rw [if_neg hR2]]
       exact ⟨_, _, _, rfl, ha2, (St.reF [_, _, _] 3 (stx.ext hx4) [0, 2, 1] (by decide)).tail.tail, fun h9 => absurd h9 (by decide)⟩
theorem btake_spec {B q m c : Nat} {most : Int} {A : Option Addr} {l : List UInt8} {F : List Res} {h0 : Heap} (st0 : St B h0 h0 (rdG q A m c 0 :: F)) (hrB : ∀ h', Low B h0 h' → Rd h' A (l.map byteV)) (hl : l.length = m) (hm : m ≤ 1048576) (hmo : inK .i64 most) :
  Ret Try.prog 21 [.pointer (some ⟨q, 0, none⟩), .int .i64 most] h0 fun v h' => ∃ w a', v = retVal [w, nV (blockT (bitsB l) most).2.2.2] ∧ a' ≤ 8 * m ∧ ((blockT (bitsB l) most).2.2.2 = 0 → a' = (blockT (bitsB l) most).2.2.1) ∧
   St B h0 h' (rdG q A m c a' :: row 64 3 w ((blockT (bitsB l) most).1.flatMap tokV) :: F) := by
 have hbl := bitsB_length l
 have hok := codesT_ok (bs := bitsB l) (a := 0)
 obtain ⟨N, hN⟩ : ∃ N, blockT (bitsB l) most = N := ⟨_, rfl⟩
 rw [hN]
 unfold blockT at hN
 obtain ⟨K, hK⟩ : ∃ K, codesT (bitsB l) 0 = K := ⟨_, rfl⟩
 rw [hK] at hN hok
 have bad : ∀ e, N = ([], 0, 0, e) → e ≠ 0 → ∀ h' a', a' ≤ 8 * m → St B h0 h' (rdG q A m c a' :: F) → ∃ w a', retVal [.slice none 0 0, nV e] = retVal [w, nV N.2.2.2] ∧ a' ≤ 8 * m ∧ (N.2.2.2 = 0 → a' = N.2.2.1) ∧ St B h0 h' (rdG q A m c a' :: row 64 3 w (N.1.flatMap tokV) :: F) := by
  intro e he h0 h' a' ha' st
  subst he
  exact ⟨_, a', rfl, ha', fun h => absurd h h0, (st.nilrow 64 3).perm (List.Perm.swap _ _ _)⟩
 refine ret_of_X Try.func21 rfl rfl fun w0 hw0 => ?_
 simp only [argE, Nat.zero_add, Nat.reduceAdd]
 have st := st0
 refine X_seq (X_reg (XA rfl rfl rfl (XA rfl rfl rfl (XR_nil (X_seq (X_seq (X_reg (XV rfl rfl rfl ?_))))))))
 refine XR_a (op_ptr_nil rfl rfl rfl) rfl rfl ?_
 refine XR_nil (X_else rfl (X_skip (X_seq (X_reg (XV rfl rfl rfl ?_)))))
 refine XR_wa (opl_call (bcodes_spec st.here (fun h' hh => hrB h' (st.low.trans hh)) hl (by omega) (by omega)) rfl (by kernel_rfl)) rfl rfl rfl ?_
 rintro _ hp1 ⟨w1, w2, a1, rfl, ha1, st, hk⟩
 rw [hK] at hk ⊢
 refine XV rfl rfl rfl (XR_a (op_extract rfl rfl) rfl rfl (XR_a (op_extract rfl rfl) rfl rfl (XR_a (op_extract rfl rfl) rfl rfl (XA rfl rfl rfl (XA rfl rfl rfl (XA rfl rfl rfl (XR_nil (X_seq (X_seq ?_)))))))))
 refine X_reg (XV rfl rfl rfl ?_)
 refine XR_a (op_neq rfl rfl) rfl rfl ?_
 refine XR_nil ?_
 refine X_if rfl (fun h => ?_) (fun h => ?_)
 ·rw [if_pos (by omega)] at hN
  refine X_seq (X_reg (XV rfl rfl rfl (XA rfl rfl rfl (XA rfl rfl rfl (XR_nil ?_)))))
  refine X_ret (.cons (.tmp rfl) (.cons (.tmp rfl) .nil)) ?_
  exact bad _ hN.symm (by omega) _ _ ha1 st
 ·have hK0 : K.1 = 0 := by omega
  rw [if_neg (by omega)] at hN
  obtain ⟨rfl, p1, p2, rfl, rfl, st⟩ := hk hK0
  obtain ⟨oka, okb, na, nb⟩ := hok hK0
  clear hk hok
  refine X_skip (X_seq (X_reg (XA rfl rfl rfl (XR_nil (X_seq (X_reg (XA rfl rfl rfl (XR_nil (X_block ?_)))))))))
  replace st := (st.nilrow 64 3)
  replace st := St.reF [_, _, _, _] 4 st [1, 2, 3, 0] (by decide)
  simp only [List.map_cons, List.map_nil, getR, List.cons_append, List.nil_append] at st
  refine X_loop (fun s => s.1) (fun s => [(0, .pointer (some ⟨q, 0, none⟩)), (1, .int .i64 most), (6, .pointer (some ⟨p1, 0, none⟩)), (7, .pointer (some ⟨p2, 0, none⟩)), (9, s.2.2.2.2), (10, nV s.2.2.1)])
   (fun (s : Nat × Nat × Nat × List Tok × Value) hp => goB K.2.1 K.2.2.1 (bitsB l) most s.1 s.2.1 s.2.2.1 s.2.2.2.1 = N ∧ 8 * m + 1 ≤ s.2.1 + s.1 ∧ s.2.1 ≤ 8 * m ∧ s.2.2.1 ≤ 258 * s.2.1 ∧ s.2.2.2.1.length ≤ s.2.1 ∧ (0 < s.2.2.1 → (s.2.2.1 : Int) ≤ most) ∧
    St B h0 hp (rdG q A m c s.2.1 :: codeR p1 K.2.1 :: codeR p2 K.2.2.1 :: row 64 3 s.2.2.2.2 (s.2.2.2.1.flatMap tokV) :: F))
   ((bitsB l).length + 1, K.2.2.2, 0, [], _) (.cons rfl (.cons rfl (.cons rfl (.cons rfl (.cons rfl (.cons rfl (.nil _))))))) ⟨hN, by simp only; omega, ha1, Nat.zero_le _, Nat.zero_le _, fun h => absurd h (by simp), st⟩ ?_
  clear st
  rintro ⟨f, a, sz, acc, v⟩ hp ⟨hg, hf, haa, hsz, hacl, hmz, st⟩
  simp only at hg hf haa hsz hacl hmz st ⊢
  obtain ⟨f, rfl⟩ : ∃ g, f = g + 1 := ⟨f - 1, by omega⟩
  have hna := nextT_at (la := K.2.1) (lb := K.2.2.1) (bs := bitsB l) (a := a) oka okb (by omega)
  rw [goB] at hg
  refine X_block (X_seq (X_reg (XV rfl rfl rfl (XV rfl rfl rfl (XV rfl rfl rfl ?_)))))
  refine XR_wa (opl_call (btoken_spec st.here oka okb na nb (fun h' hh => hrB h' (st.low.trans hh)) hl (by omega) haa) rfl (by kernel_rfl)) rfl rfl rfl ?_
  rintro _ hp2 ⟨rfl, st2⟩
  replace st := st.trans st2
  clear st2
  obtain ⟨T, hT⟩ : ∃ T, nextT K.2.1 K.2.2.1 (bitsB l) a = T := ⟨_, rfl⟩
  rw [hT] at hg hna st ⊢
  obtain ⟨A9, n9, c9, rfl, hl9, _⟩ := st.row 3 rfl
  refine XV rfl rfl rfl (XR_a (op_extract rfl rfl) rfl rfl (XR_a (op_extract rfl rfl) rfl rfl (XR_a (op_extract rfl rfl) rfl rfl ?_)))
  refine XR_wa (opl_new rfl) rfl rfl rfl ?_
  rintro _ hp ⟨p11, rfl, hnew⟩
  replace st := st.new hnew
  refine XR_wn (opl_store_whole (us := tokV T.1) st 0 rfl rfl rfl rfl rfl (tokV_one _) rfl) rfl rfl fun _ hp st => ?_
  simp only [List.set_cons_zero, List.set_cons_succ] at st
  refine XA rfl rfl rfl (XA rfl rfl rfl (XR_nil (X_seq (X_reg ?_))))
  first | refine XR_a (op_field0 rfl rfl) rfl rfl ?_ | refine XR_a (op_fieldn rfl rfl) rfl rfl ?_
  refine XR_a (op_ld (st.cell 0 (i := 1) rfl rfl) rfl rfl rfl) rfl rfl ?_
  refine XR_a (op_max2 rfl rfl) rfl rfl ?_
  refine XA rfl rfl rfl (XR_nil (X_seq (X_block (X_seq (X_reg (XV rfl rfl rfl ?_))))))
  refine XR_a (op_neq rfl rfl) rfl rfl ?_
  refine XA rfl rfl rfl (XR_nil ?_)
  refine X_if rfl (fun h => ?_) (fun h => ?_)
  ·have ho : T.2.2.1 = true := by
    cases hh : T.2.2.1 with
    | true => rfl
    | false => have := (hna.2.2 hh).2.1; omega
   rw [if_pos ho, if_pos (by omega)] at hg
   have st' := (St.reF [_, _, _, _, _] 5 st [0, 2, 3, 4, 1] (by decide)).tail.tail.tail.tail
   refine X_seq (X_reg (XV rfl rfl rfl (XA rfl rfl rfl (XA rfl rfl rfl (XR_nil ?_)))))
   refine X_ret (.cons (.tmp rfl) (.cons (.tmp rfl) .nil)) ?_
   exact bad _ hg.symm (by omega) _ _ (by omega) st'
  ·refine X_seq (X_reg (XV rfl rfl rfl ?_))
   first | refine XR_a (op_notd rfl) rfl rfl ?_ | refine XR_a (op_not rfl) rfl rfl ?_
   refine XA rfl rfl rfl (XR_nil ?_)
   refine X_cond rfl (fun h => ?_) (fun h => ?_)
   ·have ho : T.2.2.1 = true := by simpa using h
    rw [if_pos ho, if_neg (by omega)] at hg
    refine X_seq (X_reg (XV rfl rfl rfl (XA rfl rfl rfl (XA rfl rfl rfl (XR_nil ?_)))))
    refine X_ret (.cons (.tmp rfl) (.cons (.tmp rfl) .nil)) ?_
    subst hg
    exact ⟨_, T.2.1, rfl, by omega, fun _ => rfl, (St.reF [_, _, _, _, _] 5 st [0, 2, 3, 1, 4] (by decide)).tail.tail.tail⟩
   ·have ho : T.2.2.1 = false := by simpa using h
    rw [if_neg (by rw [ho]; simp)] at hg
    obtain ⟨hlt, he0, hri, hb0, hb1⟩ := hna.2.2 ho
    obtain ⟨hs1, hs2, hs3⟩ := Tok.size_le hri
    refine X_seq (X_reg ?_)
    first | refine XR_a (op_field0 rfl rfl) rfl rfl ?_ | refine XR_a (op_fieldn rfl rfl) rfl rfl ?_
    refine XR_a (op_ld (st.cell 0 (i := 2) rfl rfl) rfl rfl rfl) rfl rfl ?_
    refine XV rfl rfl rfl ?_
    refine XR_a (op_gtr rfl rfl) rfl rfl ?_
    refine XA rfl rfl rfl (XR_nil ?_)
    refine X_if rfl (fun h => ?_) (fun h => ?_)
    ·rw [if_pos (by omega)] at hg
     refine X_seq (X_reg (XA rfl rfl rfl (XA rfl rfl rfl (XR_nil ?_))))
     refine X_ret (.cons (.tmp rfl) (.cons (.tmp rfl) .nil)) ?_
     exact bad _ hg.symm (by omega) _ _ (by omega) (St.reF [_, _, _, _, _] 5 st [0, 2, 3, 4, 1] (by decide)).tail.tail.tail.tail
    ·rw [if_neg (by omega)] at hg
     refine X_seq (X_reg (XV rfl rfl rfl (XV rfl rfl rfl (XV rfl rfl rfl ?_))))
     refine XR_a (op_subI rfl rfl (by simp only [inK] at hmo ⊢; omega)) rfl rfl ?_
     refine XR_a (op_gtr rfl rfl) rfl rfl ?_
     refine XA rfl rfl rfl (XR_nil ?_)
     refine X_if rfl (fun h => ?_) (fun h => ?_)
     ·rw [if_pos (by omega)] at hg
      refine X_seq (X_reg (XA rfl rfl rfl (XA rfl rfl rfl (XR_nil ?_))))
      refine X_ret (.cons (.tmp rfl) (.cons (.tmp rfl) .nil)) ?_
      exact bad _ hg.symm (by omega) _ _ (by omega) (St.reF [_, _, _, _, _] 5 st [0, 2, 3, 4, 1] (by decide)).tail.tail.tail.tail
     ·rw [if_neg (by omega)] at hg
      refine X_skip (X_blk (X_seq (X_reg (XV rfl rfl rfl ?_))))
      refine XR_a (op_ldA (vs := tokV T.1) (st.cells 0 rfl) rfl rfl rfl rfl) rfl rfl ?_
      refine XR_wa (opl_varA (us := tokV T.1) rfl rfl rfl rfl (by kernel_rfl)) rfl rfl rfl ?_
      rintro _ hp ⟨A8, rfl, hx9, hrd⟩
      replace st := st.ext hx9
      refine XR_wa (opl_append st 4 rfl (hrd) (rfl) (tokV_one _) (by rw [flat_length _ 3 (fun _ => rfl)]; simp; omega) rfl rfl rfl rfl rfl rfl rfl) rfl rfl rfl fun v hp st => ?_
      simp only [List.set_cons_zero, List.set_cons_succ] at st
      have e2 : acc.flatMap tokV ++ tokV T.1 = (acc ++ [T.1]).flatMap tokV := by rw [List.flatMap_append]; simp
      rw [e2] at st
      refine XA rfl rfl rfl (XR_nil (X_reg (XV rfl rfl rfl (XV rfl rfl rfl ?_))))
      refine XR_a (op_addI rfl rfl (by simp only [inK]; omega)) rfl rfl ?_
      refine XR_as (nV (sz + T.1.size)) (congrArg (Value.int .i64) (by omega)) ?_
      refine XA rfl rfl rfl (XR_nil (X_blk ?_))
      refine X_again (f, T.2.1, sz + T.1.size, acc ++ [T.1], _) (.cons rfl (.cons rfl (.cons rfl (.cons rfl (.cons rfl (.cons rfl (.nil _))))))) ⟨hg, by simp only; omega, by simp only; omega, by simp only; omega, by simp only [List.length_append, List.length_cons, List.length_nil]; omega, fun _ => by simp only; omega, st.tail⟩ (by simp only; omega)
end Go.Bn
end

section
set_option linter.unusedVariables false
set_option linter.unusedSimpArgs false
set_option maxHeartbeats 4000000
set_option maxRecDepth 20000
namespace Go.Bn
open Go Proofs
theorem brows_spec {B n c : Nat} {A : Option Addr} {ts : List Tok} {F : List Res} {h0 : Heap} (st0 : St B h0 h0 F) (hrB : ∀ h', Low B h0 h' → Rd h' A (ts.flatMap tokV)) (hl : ts.length = n) (hn : n ≤ 17592186044416) (hby : ∀ t ∈ ts, 0 ≤ t.byte ∧ t.byte < 256) :
  Ret Try.prog 37 [.slice A n c] h0 fun v h' => ∃ w, v = retVal [w, .bool (decide (rightL ts))] ∧ (rightL ts → St B h0 h' (row 80 7 w ((ts.map splitY).flatMap syV) :: F)) ∧ (¬ rightL ts → St B h0 h' F) := by
 refine ret_of_X Try.func37 rfl rfl fun w0 hw0 => ?_
 simp only [argE, Nat.zero_add, Nat.reduceAdd]
 have st := st0
 refine X_seq (X_reg (XA rfl rfl rfl (XA rfl rfl rfl (XR_nil ?_))))
 refine X_scope rfl (fun _ _ _ hh => hh) ?_
 refine X_seq (X_seq (X_reg (XV rfl rfl rfl ?_)))
 refine XR_a (op_len rfl rfl rfl) rfl rfl ?_
 refine XR_a (op_gtr rfl rfl) rfl rfl ?_
 refine XR_nil ?_
 refine X_if rfl (fun h => ?_) (fun h => ?_)
 ·refine X_seq (X_reg (XA rfl rfl rfl (XA rfl rfl rfl (XR_nil ?_))))
  refine X_ret (.cons (.tmp rfl) (.cons (.tmp rfl) .nil)) ?_
  have hno : ¬ rightL ts := fun hh => by have := hh.1; omega
  rw [decide_eq_false hno]
  exact ⟨_, rfl, fun hh => absurd hh hno, fun _ => st⟩
 ·refine X_skip (X_seq (X_reg (XA rfl rfl rfl (XR_nil (X_seq (X_reg (XA rfl rfl rfl (XR_nil (X_seq ?_)))))))))
  refine X_label ?_
  refine X_seq (X_seq (X_reg (XV rfl rfl rfl ?_)))
  refine XR_a (op_len rfl rfl rfl) rfl rfl ?_
  refine XV rfl rfl rfl (XR_nil (X_block ?_))
  have st := st0.nilrow 80 7
  refine X_loop (fun s => n - s.1) (fun s => [(4, s.2), (5, .bool true), (12, .slice A n c), (13, nV n), (14, nV s.1)])
   (fun (s : Nat × Value) hp => s.1 ≤ n ∧ (∀ t ∈ ts.take s.1, t.right) ∧ St B h0 hp (row 80 7 s.2 (((ts.take s.1).map splitY).flatMap syV) :: F))
   (0, _) (.cons rfl (.cons rfl (.cons rfl (.cons rfl (.cons rfl (.nil _)))))) ⟨Nat.zero_le _, by simp, st⟩ ?_
  clear st
  rintro ⟨i, v⟩ hp ⟨hi, hri, st⟩
  simp only at hi hri st ⊢
  refine X_seq (X_reg ?_)
  refine XR_a (op_lss rfl rfl) rfl rfl ?_
  refine XR_nil (X_seq ?_)
  refine X_if rfl (fun h => ?_) (fun h => ?_)
  ·have hil : i < ts.length := by omega
   obtain ⟨t, ht⟩ : ∃ t, ts[i] = t := ⟨_, rfl⟩
   have htm : t ∈ ts := ht ▸ List.getElem_mem hil
   obtain ⟨g1, o1, rfl, hc1⟩ := Rd.flat tokV 3 (hrB hp st.low) (fun _ => rfl) (by omega) (by omega)
   have hcx := hc1 i hil
   rw [ht] at hcx
   obtain ⟨A4, n4, c4, rfl, hl4, _⟩ := st.row 0 rfl
   rw [flat_length _ 7 (fun _ => rfl), List.length_map, List.length_take] at hl4
   have htk : ts.take (i + 1) = ts.take i ++ [t] := by rw [List.take_succ_eq_append_getElem hil, ht]
   refine X_skip (X_seq (X_block (X_seq (X_reg ?_))))
   refine XR_a (op_index (i := i) rfl rfl rfl (by omega)) rfl rfl ?_
   refine XR_a (op_ldA (vs := tokV t) hcx rfl rfl rfl rfl) rfl rfl ?_
   refine XR_wa (opl_new rfl) rfl rfl rfl ?_
   rintro _ hp1 ⟨p7, rfl, hnew⟩
   replace st := st.new hnew
   refine XR_wn (opl_store_whole (us := tokV t) st 0 rfl rfl rfl rfl rfl (tokV_one _) rfl) rfl rfl fun _ hp st => ?_
   simp only [List.set_cons_zero, List.set_cons_succ] at st
   refine XR_nil (X_seq (X_reg ?_))
   refine XR_wa (opl_new rfl) rfl rfl rfl ?_
   rintro _ hp2 ⟨p8, rfl, hnew⟩
   replace st := st.new hnew
   refine XR_nil (X_seq (X_seq (X_reg ?_)))
   refine XR_a (op_ldA (vs := tokV t) (st.cells 1 rfl) rfl rfl rfl rfl) rfl rfl ?_
   refine XR_wa (opl_call (ssplit_spec (hby t htm) _) rfl (by kernel_rfl)) rfl rfl rfl ?_
   rintro _ hp4 ⟨rfl, hx4⟩
   replace st := st.ext hx4
   refine XV rfl rfl rfl ?_
   by_cases hrt : t.right
   ·rw [splitT_yes hrt]
    refine XR_a (op_extract rfl rfl) rfl rfl (XR_a (op_extract rfl rfl) rfl rfl ?_)
    refine XR_wn (opl_store_whole (us := syV (splitY t)) st 0 rfl rfl rfl rfl rfl (syV_one _) rfl) rfl rfl fun _ hp st => ?_
    simp only [List.set_cons_zero, List.set_cons_succ] at st
    refine XA rfl rfl rfl (XR_nil (X_seq (X_reg (XV rfl rfl rfl ?_))))
    first | refine XR_a (op_notd rfl) rfl rfl ?_ | refine XR_a (op_not rfl) rfl rfl ?_
    refine XR_as (.bool false) rfl ?_
    refine XR_nil (X_else rfl (X_skip (X_reg (XV rfl rfl rfl ?_))))
    refine XR_a (op_ldA (vs := syV (splitY t)) (st.cells 0 rfl) rfl rfl rfl rfl) rfl rfl ?_
    refine XR_wa (opl_varA (us := syV (splitY t)) rfl rfl rfl rfl (by kernel_rfl)) rfl rfl rfl ?_
    rintro _ hp ⟨A8, rfl, hx9, hrd⟩
    replace st := st.ext hx9
    refine XR_wa (opl_append st 2 rfl (hrd) (rfl) (syV_one _) (by rw [flat_length _ 7 (fun _ => rfl)]; simp; omega) rfl rfl rfl rfl rfl rfl rfl) rfl rfl rfl fun v hp st => ?_
    simp only [List.set_cons_zero, List.set_cons_succ] at st
    have e2 : ((ts.take i).map splitY).flatMap syV ++ syV (splitY t) = ((ts.take (i + 1)).map splitY).flatMap syV := by rw [htk, List.map_append, List.flatMap_append]; simp
    rw [e2] at st
    refine XA rfl rfl rfl (XR_nil (X_blk (X_reg ?_)))
    first | refine XR_a (op_addN (n := 1) rfl rfl (by simp only [inK]; omega)) rfl rfl ?_ | refine XR_a (op_addI rfl rfl (by simp only [inK]; omega)) rfl rfl ?_ | refine XR_a (op_add rfl rfl) rfl rfl ?_
    refine XV rfl rfl rfl (XR_nil ?_)
    exact X_again (i + 1, _) (.cons rfl (.cons rfl (.cons rfl (.cons rfl (.cons rfl (.nil _)))))) ⟨by simp only; omega, fun x hx => by simp only [htk] at hx; rcases List.mem_append.1 hx with hx | hx; exact hri x hx; rw [List.mem_singleton] at hx; rw [hx]; exact hrt, st.tail.tail⟩ (by simp only; omega)
   ·rw [splitT_no hrt]
    refine XR_a (op_extract rfl rfl) rfl rfl (XR_a (op_extract rfl rfl) rfl rfl ?_)
    refine XR_wn (opl_store_whole (us := syV Sy.nil) st 0 rfl rfl rfl rfl rfl (syV_one _) rfl) rfl rfl fun _ hp st => ?_
    simp only [List.set_cons_zero, List.set_cons_succ] at st
    refine XA rfl rfl rfl (XR_nil (X_seq (X_reg (XV rfl rfl rfl ?_))))
    first | refine XR_a (op_notd rfl) rfl rfl ?_ | refine XR_a (op_not rfl) rfl rfl ?_
    refine XR_as (.bool true) rfl ?_
    refine XR_nil (X_then rfl (X_exit rfl (X_seq (X_reg (XV rfl rfl rfl (XV rfl rfl rfl (XA rfl rfl rfl (XA rfl rfl rfl (XR_nil ?_)))))))))
    refine X_ret (.cons (.tmp rfl) (.cons (.tmp rfl) .nil)) ?_
    have hno : ¬ rightL ts := fun hh => hrt (hh.2 t htm)
    rw [decide_eq_false hno]
    exact ⟨_, rfl, fun hh => absurd hh hno, fun _ => st.tail.tail.tail⟩
  ·refine X_exit rfl (X_seq (X_reg (XV rfl rfl rfl (XV rfl rfl rfl (XA rfl rfl rfl (XA rfl rfl rfl (XR_nil ?_)))))))
   refine X_ret (.cons (.tmp rfl) (.cons (.tmp rfl) .nil)) ?_
   obtain rfl : i = n := by omega
   rw [List.take_of_length_le (by omega)] at hri st
   have hyes : rightL ts := ⟨by omega, hri⟩
   rw [decide_eq_true hyes]
   exact ⟨_, rfl, fun _ => st, fun hh => absurd hyes hh⟩
theorem bweigh1_spec {B n c : Nat} {A : Option Addr} {ys : List Sy} {F : List Res} {h0 : Heap} (st0 : St B h0 h0 F) (hrB : ∀ h', Low B h0 h' → Rd h' A (ys.flatMap syV)) (hl : ys.length = n) (hn : n ≤ 65536) (hok : ∀ y ∈ ys, 0 ≤ y.a.num ∧ y.a.num < 273 ∧ 0 ≤ y.b.num ∧ y.b.num < 30) :
  Ret Try.prog 38 [.slice A n c] h0 fun v h' => ∃ w1 w2, v = retVal [w1, w2] ∧ St B h0 h' (row 3 1 w1 ((firstW ys).map nV) :: row 3 1 w2 ((secondW ys).map nV) :: F) := by
 refine ret_of_X Try.func38 rfl rfl fun w0 hw0 => ?_
 simp only [argE, Nat.zero_add, Nat.reduceAdd]
 have st := st0
 refine X_seq (X_reg (XA rfl rfl rfl (XA rfl rfl rfl (XR_nil (X_seq ?_)))))
 refine X_draw_two byKind [] 0 [2, 1, 3] 1 [0, 2, 3] (by kernel_rfl) (by kernel_rfl) rfl rfl rfl ?_
 refine XR_nil ?_
 refine X_alt (σ := Value × Value) (fun s => [(0, .slice A n c), (2, s.1), (3, s.2)]) (fun s hp => St B h0 hp (row 3 1 s.1 (List.replicate 273 (iV 0)) :: row 3 1 s.2 (List.replicate 30 (iV 0)) :: F)) ?_ ?_ ?_
 ·refine XR_ga (opl_mk (by decide) rfl rfl rfl) rfl rfl rfl (fun _ _ e => e.1) ?_
  rintro v hp hnew
  have st := st.new hnew
  refine XA rfl rfl rfl ?_
  refine XR_ga (opl_mk (by decide) rfl rfl rfl) rfl rfl rfl (fun _ _ e => e.1) ?_
  rintro v hp hnew
  have st := st.new hnew
  refine XA rfl rfl rfl (XR_nil ?_)
  exact X_meet (_, _) (.cons rfl (.cons rfl (.cons rfl (.nil _)))) (St.reF [_, _] 2 st [1, 0] (by decide))
 ·refine XR_ga (opl_mk (by decide) rfl rfl rfl) rfl rfl rfl (fun _ _ e => e.1) ?_
  rintro v hp hnew
  have st := st.new hnew
  refine XR_ga (opl_mk (by decide) rfl rfl rfl) rfl rfl rfl (fun _ _ e => e.1) ?_
  rintro v hp hnew
  have st := st.new hnew
  refine XA rfl rfl rfl (XA rfl rfl rfl (XR_nil ?_))
  exact X_meet (_, _) (.cons rfl (.cons rfl (.cons rfl (.nil _)))) st
 rintro ⟨v1, v2⟩ hp st
 simp only at st ⊢
 obtain ⟨ga, na, ca, rfl, hla, _⟩ := st.row0 0 rfl (by rw [List.length_replicate]; omega)
 obtain ⟨gb, nb, cb, rfl, hlb, _⟩ := st.row0 1 rfl (by rw [List.length_replicate]; omega)
 obtain rfl : na = 273 := by rw [List.length_replicate] at hla; omega
 obtain rfl : nb = 30 := by rw [List.length_replicate] at hlb; omega
 refine X_seq (X_reg (XV rfl rfl rfl ?_))
 refine XR_a (op_index1 (i := 256) rfl rfl rfl (by omega)) rfl rfl ?_
 refine XR_wn (opl_store_row (o := 0) (i := 256) (v := nV 1) st 0 rfl (congrArg (fun x => some (Value.pointer (some ⟨ga, x, none⟩))) (by omega)) rfl (by simp) rfl rfl) rfl rfl fun _ hp st => ?_
 simp only [List.set_cons_zero, List.set_cons_succ] at st
 rw [show (List.replicate 273 (iV 0)).set 256 (nV 1) = (foldW (ys.take 0)).1.map nV by show _ = ((List.replicate 273 0).set 256 1).map nV; rw [List.map_set, List.map_replicate]; rfl, show List.replicate 30 (iV 0) = (foldW (ys.take 0)).2.1.map nV by show _ = (List.replicate 30 0).map nV; rw [List.map_replicate]; rfl] at st
 refine XR_nil (X_seq (X_reg (XA rfl rfl rfl (XR_nil (X_seq (X_seq (X_reg (XV rfl rfl rfl ?_))))))))
 refine XR_a (op_len rfl rfl rfl) rfl rfl ?_
 refine XV rfl rfl rfl (XR_nil (X_block ?_))
 refine X_loop (fun i => n - i) (fun i => [(2, .slice (some ⟨ga, 0, none⟩) 273 ca), (3, .slice (some ⟨gb, 0, none⟩) 30 cb), (4, nV (foldW (ys.take i)).2.2), (11, .slice A n c), (12, nV n), (13, nV i)])
  (fun (i : Nat) hp => i ≤ n ∧ St B h0 hp (row 3 1 (.slice (some ⟨ga, 0, none⟩) 273 ca) ((foldW (ys.take i)).1.map nV) :: row 3 1 (.slice (some ⟨gb, 0, none⟩) 30 cb) ((foldW (ys.take i)).2.1.map nV) :: F))
  0 (.cons rfl (.cons rfl (.cons rfl (.cons rfl (.cons rfl (.cons rfl (.nil _))))))) ⟨Nat.zero_le _, st⟩ ?_
 clear st
 rintro i hp ⟨hi, st⟩
 obtain ⟨W, hW⟩ : ∃ W, foldW (ys.take i) = W := ⟨_, rfl⟩
 have hWk := foldW_ok (ys.take i)
 rw [hW] at st hWk ⊢
 obtain ⟨k1, k2, k3, k4, k5⟩ := hWk
 rw [List.length_take] at k3 k4 k5
 refine X_seq (X_reg ?_)
 refine XR_a (op_lss rfl rfl) rfl rfl ?_
 refine XR_nil (X_seq ?_)
 refine X_if rfl (fun h => ?_) (fun h => ?_)
 ·have hil : i < ys.length := by omega
  obtain ⟨y, hy⟩ : ∃ y, ys[i] = y := ⟨_, rfl⟩
  have hyo := hok y (hy ▸ List.getElem_mem hil)
  obtain ⟨gy, oy, rfl, hcy⟩ := Rd.flat syV 7 (hrB hp st.low) (fun _ => rfl) (by omega) (by omega)
  have hcx := hcy i hil
  rw [hy] at hcx
  have hsn : foldW (ys.take (i + 1)) = stepW W y := by rw [List.take_succ_eq_append_getElem hil, hy, foldW_snoc, hW]
  obtain ⟨ya, hya⟩ : ∃ a : Nat, y.a.num = a := ⟨y.a.num.toNat, by omega⟩
  obtain ⟨yb, hyb⟩ : ∃ a : Nat, y.b.num = a := ⟨y.b.num.toNat, by omega⟩
  have hga : W.1[ya]? = some (W.1.getD ya 0) := by rw [List.getD_eq_getElem?_getD, List.getElem?_eq_getElem (by omega)]; rfl
  have hgb : W.2.1[yb]? = some (W.2.1.getD yb 0) := by rw [List.getD_eq_getElem?_getD, List.getElem?_eq_getElem (by omega)]; rfl
  have hma := le_sum (List.mem_of_getElem? hga)
  have hmb := le_sum (List.mem_of_getElem? hgb)
  refine X_skip (X_seq (X_block (X_seq (X_reg ?_))))
  refine XR_a (op_index (i := i) rfl rfl rfl (by omega)) rfl rfl ?_
  refine XR_a (op_ldA (vs := syV y) hcx rfl rfl rfl rfl) rfl rfl ?_
  refine XR_wa (opl_new rfl) rfl rfl rfl ?_
  rintro _ hp1 ⟨p6, rfl, hnew⟩
  replace st := st.new hnew
  refine XR_wn (opl_store_whole (us := syV y) st 0 rfl rfl rfl rfl rfl (syV_one _) rfl) rfl rfl fun _ hp st => ?_
  simp only [List.set_cons_zero, List.set_cons_succ] at st
  obtain ⟨_, _, he1, hc1⟩ := (st.rdS 1 rfl).2.at_ (by rw [List.length_map]; omega)
  cases he1
  have hov := hc1 ya (nV (W.1.getD ya 0)) (by rw [List.getElem?_map, hga]; rfl)
  refine XR_nil (X_seq (X_reg (XV rfl rfl rfl ?_)))
  first | refine XR_a (op_field0 rfl rfl) rfl rfl ?_ | refine XR_a (op_fieldn rfl rfl) rfl rfl ?_
  first | refine XR_a (op_field0 rfl rfl) rfl rfl ?_ | refine XR_a (op_fieldn rfl rfl) rfl rfl ?_
  refine XR_a (op_ld (st.cell 0 (i := 0) rfl rfl) rfl rfl rfl) rfl rfl ?_
  refine XR_as (nV ya) (congrArg (Value.int .i64) hya) ?_
  refine XR_a (op_index1 (i := ya) rfl rfl rfl (by omega)) rfl rfl ?_
  refine XR_a (op_ld (hov) rfl rfl rfl) rfl rfl ?_
  first | refine XR_a (op_addN (n := 1) rfl rfl (by simp only [inK]; omega)) rfl rfl ?_ | refine XR_a (op_addI rfl rfl (by simp only [inK]; omega)) rfl rfl ?_ | refine XR_a (op_add rfl rfl) rfl rfl ?_
  refine XR_a (op_index1 (i := ya) rfl rfl rfl (by omega)) rfl rfl ?_
  refine XR_wn (opl_store_row (o := 0) (i := ya) (v := nV (W.1.getD ya 0 + 1)) st 1 rfl (congrArg (fun x => some (Value.pointer (some ⟨ga, x, none⟩))) (by omega)) rfl (by simp; omega) rfl rfl) rfl rfl fun _ hp st => ?_
  simp only [List.set_cons_zero, List.set_cons_succ] at st
  rw [map_set_nV] at st
  refine XR_nil (X_seq (X_reg ?_))
  first | refine XR_a (op_field0 rfl rfl) rfl rfl ?_ | refine XR_a (op_fieldn rfl rfl) rfl rfl ?_
  refine XR_a (op_ld (st.cell 0 (i := 6) rfl rfl) rfl rfl rfl) rfl rfl ?_
  refine XR_as (.bool (decide (y.m = true))) (congrArg Value.bool (by cases y.m <;> rfl)) ?_
  refine XR_nil ?_
  refine X_if rfl (fun h => ?_) (fun h => ?_)
  ·have hs2 : foldW (ys.take (i + 1)) = (W.1.set ya (W.1.getD ya 0 + 1), W.2.1.set yb (W.2.1.getD yb 0 + 1), W.2.2 + 1) := by
    rw [hsn]; simp only [stepW, addAt, hya, hyb, Int.toNat_natCast]; rw [if_pos h, if_pos h]
   obtain ⟨_, _, he2, hc2⟩ := (st.rdS 2 rfl).2.at_ (by rw [List.length_map]; omega)
   cases he2
   have hov2 := hc2 yb (nV (W.2.1.getD yb 0)) (by rw [List.getElem?_map, hgb]; rfl)
   refine X_seq (X_reg (XV rfl rfl rfl ?_))
   first | refine XR_a (op_addN (n := 1) rfl rfl (by simp only [inK]; omega)) rfl rfl ?_ | refine XR_a (op_addI rfl rfl (by simp only [inK]; omega)) rfl rfl ?_ | refine XR_a (op_add rfl rfl) rfl rfl ?_
   refine XA rfl rfl rfl (XR_nil (X_reg (XV rfl rfl rfl ?_)))
   first | refine XR_a (op_field0 rfl rfl) rfl rfl ?_ | refine XR_a (op_fieldn rfl rfl) rfl rfl ?_
   first | refine XR_a (op_field0 rfl rfl) rfl rfl ?_ | refine XR_a (op_fieldn rfl rfl) rfl rfl ?_
   refine XR_a (op_ld (st.cell 0 (i := 3) rfl rfl) rfl rfl rfl) rfl rfl ?_
   refine XR_as (nV yb) (congrArg (Value.int .i64) hyb) ?_
   refine XR_a (op_index1 (i := yb) rfl rfl rfl (by omega)) rfl rfl ?_
   refine XR_a (op_ld (hov2) rfl rfl rfl) rfl rfl ?_
   first | refine XR_a (op_addN (n := 1) rfl rfl (by simp only [inK]; omega)) rfl rfl ?_ | refine XR_a (op_addI rfl rfl (by simp only [inK]; omega)) rfl rfl ?_ | refine XR_a (op_add rfl rfl) rfl rfl ?_
   refine XR_a (op_index1 (i := yb) rfl rfl rfl (by omega)) rfl rfl ?_
   refine XR_wn (opl_store_row (o := 0) (i := yb) (v := nV (W.2.1.getD yb 0 + 1)) st 2 rfl (congrArg (fun x => some (Value.pointer (some ⟨gb, x, none⟩))) (by omega)) rfl (by simp; omega) rfl rfl) rfl rfl fun _ hp st => ?_
   simp only [List.set_cons_zero, List.set_cons_succ] at st
   rw [map_set_nV] at st
   refine XR_nil (X_blk (X_reg ?_))
   first | refine XR_a (op_addN (n := 1) rfl rfl (by simp only [inK]; omega)) rfl rfl ?_ | refine XR_a (op_addI rfl rfl (by simp only [inK]; omega)) rfl rfl ?_ | refine XR_a (op_add rfl rfl) rfl rfl ?_
   refine XV rfl rfl rfl (XR_nil ?_)
   exact X_again (i + 1) (.cons rfl (.cons rfl (.cons (by rw [hs2]; rfl) (.cons rfl (.cons rfl (.cons rfl (.nil _))))))) ⟨by omega, by rw [hs2]; exact st.tail⟩ (by omega)
  ·have hs2 : foldW (ys.take (i + 1)) = (W.1.set ya (W.1.getD ya 0 + 1), W.2.1, W.2.2) := by
    rw [hsn]; simp only [stepW, addAt, hya, Int.toNat_natCast]; rw [if_neg h, if_neg h]
   refine X_skip (X_blk (X_reg ?_))
   first | refine XR_a (op_addN (n := 1) rfl rfl (by simp only [inK]; omega)) rfl rfl ?_ | refine XR_a (op_addI rfl rfl (by simp only [inK]; omega)) rfl rfl ?_ | refine XR_a (op_add rfl rfl) rfl rfl ?_
   refine XV rfl rfl rfl (XR_nil ?_)
   exact X_again (i + 1) (.cons rfl (.cons rfl (.cons (by rw [hs2]; rfl) (.cons rfl (.cons rfl (.cons rfl (.nil _))))))) ⟨by omega, by rw [hs2]; exact st.tail⟩ (by omega)
 ·rw [List.take_of_length_le (by omega)] at hW
  refine X_exit rfl (X_seq (X_seq (X_reg (XV rfl rfl rfl ?_))))
  refine XR_a (op_eql rfl rfl) rfl rfl ?_
  refine XR_nil ?_
  refine X_if rfl (fun h => ?_) (fun h => ?_)
  ·have hs : secondW ys = W.2.1.set 0 1 := by unfold secondW; rw [hW, if_pos (by omega)]
   refine X_reg (XV rfl rfl rfl ?_)
   refine XR_a (op_index1 (i := 0) rfl rfl rfl (by omega)) rfl rfl ?_
   refine XR_wn (opl_store_row (o := 0) (i := 0) (v := nV 1) st 1 rfl (congrArg (fun x => some (Value.pointer (some ⟨gb, x, none⟩))) (by omega)) rfl (by simp; omega) rfl rfl) rfl rfl fun _ hp st => ?_
   simp only [List.set_cons_zero, List.set_cons_succ] at st
   rw [map_set_nV] at st
   refine XR_nil (X_seq (X_reg (XV rfl rfl rfl (XV rfl rfl rfl (XA rfl rfl rfl (XA rfl rfl rfl (XR_nil ?_)))))))
   refine X_ret (.cons (.tmp rfl) (.cons (.tmp rfl) .nil)) ?_
   exact ⟨_, _, rfl, by rw [hs, show firstW ys = W.1 from congrArg (·.1) hW]; exact st⟩
  ·have hs : secondW ys = W.2.1 := by unfold secondW; rw [hW, if_neg (by omega)]
   refine X_skip (X_seq (X_reg (XV rfl rfl rfl (XV rfl rfl rfl (XA rfl rfl rfl (XA rfl rfl rfl (XR_nil ?_)))))))
   refine X_ret (.cons (.tmp rfl) (.cons (.tmp rfl) .nil)) ?_
   exact ⟨_, _, rfl, by rw [hs, show firstW ys = W.1 from congrArg (·.1) hW]; exact st⟩
end Go.Bn
end
