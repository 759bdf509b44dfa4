/- Packed texts of a claim: what its theorem uses, joined. -/
import Derived.Test.YtoodeecmplpndaaGreatPkBlockTakes8
section
set_option linter.unusedVariables false
set_option linter.unusedSimpArgs false
set_option maxHeartbeats 4000000
set_option maxRecDepth 20000
namespace Go.Bn
open Go Proofs
theorem valP_bd {c : Kls} : 0 ≤ (valP c).1 ∧ (valP c).1 < 65536 := by
 unfold valP
 split
 ·rename_i v hv; have := valC_lt hv; simp only; omega
 ·simp
theorem matchT_eq (a b : Kls) (m : Bool) : matchT ⟨a, b, m⟩ = if (valP ⟨a.num - 257, a.bits, a.ext⟩).2 = true ∧ (valP b).2 = true ∧ (Tok.mk 0 ((valP ⟨a.num - 257, a.bits, a.ext⟩).1 + 3) ((valP b).1 + 1)).right then (Tok.mk 0 ((valP ⟨a.num - 257, a.bits, a.ext⟩).1 + 3) ((valP b).1 + 1), true) else (Tok.nil, false) := by
 unfold matchT valP
 simp only
 cases hx : valC ⟨a.num - 257, a.bits, a.ext⟩ with
 | none => simp
 | some x =>
  cases hy : valC b with
  | none => simp
  | some y => simp
theorem smatch_spec {a b : Kls} {m : Bool} (ha : 0 ≤ a.ext ∧ a.ext < 4294967296) (hb : 0 ≤ b.ext ∧ b.ext < 4294967296) (hn : 257 ≤ a.num ∧ a.num < 273) (h0 : Heap) : Ret Tryz.prog 110 [.agg #[.int .i64 a.num, .int .i64 a.bits, .int .u32 a.ext, .int .i64 b.num, .int .i64 b.bits, .int .u32 b.ext, .bool m]] h0 fun r h' => r = retVal [.agg (tokV (matchT ⟨a, b, m⟩).1).toArray, .bool (matchT ⟨a, b, m⟩).2] ∧ Ext h0 h' := by
 rw [matchT_eq]
 have bx := valP_bd (c := ⟨a.num - 257, a.bits, a.ext⟩)
 have by_ := valP_bd (c := b)
 refine ret_of_X Tryz.func110 rfl rfl fun w0 hw0 => ?_
 simp only [argE, Nat.zero_add, Nat.reduceAdd]
 have st := St.start h0
 refine X_seq (X_reg ?_)
 refine XR_wa (opl_bx rfl rfl) rfl rfl rfl ?_
 rintro _ hp ⟨p, rfl, hnew⟩
 have st := st.new hnew
 refine XR_wa (opl_new rfl) rfl rfl rfl ?_
 rintro _ hp ⟨pp1, rfl, hnew⟩
 replace st := st.new hnew
 refine XR_a (op_assign rfl) rfl rfl (XR_nil (X_seq (X_reg ?_)))
 first | refine XR_a (op_field0 rfl rfl) rfl rfl ?_ | refine XR_a (op_fieldn rfl rfl) rfl rfl ?_
 refine XR_a (op_ldA (st.part 1 0 [] (clsV a) (clsV b ++ [.bool m]) rfl rfl) rfl rfl rfl rfl) rfl rfl ?_
 refine XR_wa (opl_new rfl) rfl rfl rfl ?_
 rintro _ hp ⟨pp2, rfl, hnew⟩
 replace st := st.new hnew
 refine XR_wn (opl_store_whole (us := clsV a) st 0 rfl rfl rfl rfl rfl (clsV_one _) rfl) rfl rfl fun _ hp st => ?_
 simp only [List.set_cons_zero, List.set_cons_succ] at st
 refine XR_nil (X_seq (X_reg ?_))
 first | refine XR_a (op_field0 rfl rfl) rfl rfl ?_ | refine XR_a (op_fieldn rfl rfl) rfl rfl ?_
 refine XR_a (op_ld (st.cell 0 (i := 0) rfl rfl) rfl rfl rfl) rfl rfl ?_
 refine XR_a (op_subI rfl rfl (by simp only [inK]; omega)) rfl rfl ?_
 first | refine XR_a (op_field0 rfl rfl) rfl rfl ?_ | refine XR_a (op_fieldn rfl rfl) rfl rfl ?_
 refine XR_wn (opl_store_pt st 0 rfl rfl rfl rfl rfl (rfl)) rfl rfl fun _ hp st => ?_
 simp only [List.set_cons_zero, List.set_cons_succ] at st
 refine XR_nil (X_seq (X_reg ?_))
 refine XR_a (op_ldA (vs := clsV ⟨a.num - 257, a.bits, a.ext⟩) (st.cells 0 rfl) rfl rfl rfl rfl) rfl rfl ?_
 refine XR_wa (opl_call (sval_spec (c := ⟨a.num - 257, a.bits, a.ext⟩) ha _) rfl (by kernel_rfl)) rfl rfl rfl ?_
 rintro _ hp ⟨rfl, hx1⟩
 replace st := st.ext hx1
 refine XR_a (op_move rfl) rfl rfl (XR_a (op_extract rfl rfl) rfl rfl (XR_a (op_extract rfl rfl) rfl rfl (XR_a (op_assign rfl) rfl rfl (XR_a (op_assign rfl) rfl rfl (XR_nil ?_)))))
 refine X_seq (X_reg ?_)
 first | refine XR_a (op_field0 rfl rfl) rfl rfl ?_ | refine XR_a (op_fieldn rfl rfl) rfl rfl ?_
 refine XR_a (op_ldA (st.part 2 3 (clsV a) (clsV b) [.bool m] rfl rfl) rfl rfl rfl rfl) rfl rfl ?_
 refine XR_wa (opl_call (sval_spec (c := b) hb _) rfl (by kernel_rfl)) rfl rfl rfl ?_
 rintro _ hp ⟨rfl, hx2⟩
 replace st := st.ext hx2
 generalize valP ⟨a.num - 257, a.bits, a.ext⟩ = X at *
 generalize valP b = Y at *
 refine XR_a (op_move rfl) rfl rfl (XR_a (op_extract rfl rfl) rfl rfl (XR_a (op_extract rfl rfl) rfl rfl (XR_a (op_assign rfl) rfl rfl (XR_a (op_assign rfl) rfl rfl (XR_nil ?_)))))
 refine X_seq (X_reg (XR_a (op_move rfl) rfl rfl ?_))
 refine XR_a (op_addI rfl rfl (by simp only [inK]; omega)) rfl rfl ?_
 refine XR_a (op_move rfl) rfl rfl ?_
 refine XR_a (op_addI rfl rfl (by simp only [inK]; omega)) rfl rfl ?_
 refine XR_a (op_build (ps := [(1, .int .i64 (X.1 + 3)), (2, .int .i64 (Y.1 + 1))]) (cs := (tokV ⟨0, X.1 + 3, Y.1 + 1⟩).toArray) rfl rfl) rfl rfl ?_
 generalize Tok.mk 0 (X.1 + 3) (Y.1 + 1) = T at *
 refine XR_wa (opl_new rfl) rfl rfl rfl ?_
 rintro _ hp ⟨pp3, rfl, hnew⟩
 replace st := st.new hnew
 by_cases hX : X.2 = true
 ·have st := st
  refine XR_wn (opl_store_whole (us := tokV T) st 0 rfl rfl rfl rfl rfl (tokV_one _) rfl) rfl rfl fun _ hp st => ?_
  simp only [List.set_cons_zero, List.set_cons_succ] at st
  refine XR_nil (X_seq (X_seq (X_reg (XR_a (op_move rfl) rfl rfl ?_))))
  by_cases hY : Y.2 = true
  ·have st := st
   refine XR_a (op_not rfl) rfl rfl ?_
   refine XR_as (.bool false) (by rw [hX]; rfl) ?_
   refine XR_a (op_move rfl) rfl rfl (XR_a (op_move rfl) rfl rfl ?_)
   refine XR_a (op_not rfl) rfl rfl ?_
   refine XR_as (.bool false) (by rw [hY]; rfl) ?_
   refine XR_a (op_pick_f rfl rfl) rfl rfl (XR_a (op_move rfl) rfl rfl ?_)
   refine XR_a (op_ldA (st.cells 0 rfl) rfl rfl rfl rfl) rfl rfl ?_
   refine XR_wa (opl_call (tright_spec T _) rfl (by kernel_rfl)) rfl rfl rfl ?_
   rintro _ hp ⟨rfl, hx3⟩
   replace st := st.ext hx3
   first | refine XR_a (op_notd rfl) rfl rfl ?_ | refine XR_a (op_not rfl) rfl rfl ?_
   refine XR_a (op_pick_f rfl rfl) rfl rfl (XR_nil ?_)
   refine X_if rfl (fun h => ?_) (fun h => ?_)
   ·refine X_seq (X_reg ?_)
    refine XR_a (op_build (ps := []) (cs := (tokV Tok.nil).toArray) rfl rfl) rfl rfl ?_
    refine XR_wn (opl_store_whole (us := tokV Tok.nil) st 2 rfl rfl rfl rfl rfl (tokV_one _) rfl) rfl rfl fun _ hp st => ?_
    simp only [List.set_cons_zero, List.set_cons_succ] at st
    refine XR_a (op_assign rfl) rfl rfl (XR_nil ?_)
    refine X_ret (.cons (RV_agg (vs := tokV Tok.nil) rfl rfl rfl (st.cells 2 rfl)) (.cons (.tmp rfl) .nil)) ?_
    rw [if_neg (fun hh => h hh.2.2)]
    exact ⟨rfl, st.low⟩
   ·refine X_skip (X_seq (X_reg ?_))
    refine XR_a (op_ldA (st.cells 0 rfl) rfl rfl rfl rfl) rfl rfl ?_
    refine XR_wn (opl_store_whole (us := tokV T) st 2 rfl rfl rfl rfl rfl (tokV_one _) rfl) rfl rfl fun _ hp st => ?_
    simp only [List.set_cons_zero, List.set_cons_succ] at st
    refine XR_a (op_assign rfl) rfl rfl (XR_nil ?_)
    refine X_ret (.cons (RV_agg (vs := tokV T) rfl rfl rfl (st.cells 2 rfl)) (.cons (.tmp rfl) .nil)) ?_
    rw [if_pos ⟨hX, hY, Decidable.not_not.1 h⟩]
    exact ⟨rfl, st.low⟩
  ·have hY' : Y.2 = false := by simpa using hY
   refine XR_a (op_not rfl) rfl rfl ?_
   refine XR_as (.bool false) (by rw [hX]; rfl) ?_
   refine XR_a (op_move rfl) rfl rfl (XR_a (op_move rfl) rfl rfl ?_)
   refine XR_a (op_not rfl) rfl rfl ?_
   refine XR_as (.bool true) (by rw [hY']; rfl) ?_
   refine XR_a (op_pick_f rfl rfl) rfl rfl (XR_a (op_move rfl) rfl rfl (XR_no rfl rfl (XR_no rfl rfl (XR_no rfl rfl (XR_a (op_pick_t rfl rfl) rfl rfl ?_)))))
   refine XR_nil (X_then rfl (X_seq (X_reg ?_)))
   refine XR_a (op_build (ps := []) (cs := (tokV Tok.nil).toArray) rfl rfl) rfl rfl ?_
   refine XR_wn (opl_store_whole (us := tokV Tok.nil) st 2 rfl rfl rfl rfl rfl (tokV_one _) rfl) rfl rfl fun _ hp st => ?_
   simp only [List.set_cons_zero, List.set_cons_succ] at st
   refine XR_a (op_assign rfl) rfl rfl (XR_nil ?_)
   refine X_ret (.cons (RV_agg (vs := tokV Tok.nil) rfl rfl rfl (st.cells 2 rfl)) (.cons (.tmp rfl) .nil)) ?_
   rw [if_neg (fun hh => hY hh.2.1)]
   exact ⟨rfl, st.low⟩
 ·have hX' : X.2 = false := by simpa using hX
  refine XR_wn (opl_store_whole (us := tokV T) st 0 rfl rfl rfl rfl rfl (tokV_one _) rfl) rfl rfl fun _ hp st => ?_
  simp only [List.set_cons_zero, List.set_cons_succ] at st
  refine XR_nil (X_seq (X_seq (X_reg (XR_a (op_move rfl) rfl rfl ?_))))
  refine XR_a (op_not rfl) rfl rfl ?_
  refine XR_as (.bool true) (by rw [hX']; rfl) ?_
  refine XR_a (op_move rfl) rfl rfl (XR_no rfl rfl (XR_no rfl rfl (XR_a (op_pick_t rfl rfl) rfl rfl (XR_a (op_move rfl) rfl rfl (XR_no rfl rfl ?_)))))
  refine XR_no rfl rfl (XR_no rfl rfl (XR_a (op_pick_t rfl rfl) rfl rfl (XR_nil (X_then rfl (X_seq ?_)))))
  refine X_reg ?_
  refine XR_a (op_build (ps := []) (cs := (tokV Tok.nil).toArray) rfl rfl) rfl rfl ?_
  refine XR_wn (opl_store_whole (us := tokV Tok.nil) st 2 rfl rfl rfl rfl rfl (tokV_one _) rfl) rfl rfl fun _ hp st => ?_
  simp only [List.set_cons_zero, List.set_cons_succ] at st
  refine XR_a (op_assign rfl) rfl rfl (XR_nil ?_)
  refine X_ret (.cons (RV_agg (vs := tokV Tok.nil) rfl rfl rfl (st.cells 2 rfl)) (.cons (.tmp rfl) .nil)) ?_
  rw [if_neg (fun hh => hX hh.1)]
  exact ⟨rfl, st.low⟩
theorem joinT_m {a b : Kls} (h : 257 ≤ a.num ∧ a.num < 273) : joinT ⟨a, b, true⟩ = matchT ⟨a, b, true⟩ := by
 unfold joinT; rw [if_pos rfl, if_pos h]
theorem joinT_m0 {a b : Kls} (h : ¬ (257 ≤ a.num ∧ a.num < 273)) : joinT ⟨a, b, true⟩ = (Tok.nil, false) := by
 unfold joinT; rw [if_pos rfl, if_neg h]
theorem joinT_b {a b : Kls} (h : 0 ≤ a.num ∧ a.num < 256) (e : Sy.mk a b false = ⟨⟨a.num, 0, 0⟩, Kls.nil, false⟩) : joinT ⟨a, b, false⟩ = (⟨a.num, 0, 0⟩, true) := by
 unfold joinT; rw [if_neg (by simp), if_pos ⟨h.1, h.2, e⟩]
theorem joinT_b0 {a b : Kls} (h : ¬ (0 ≤ a.num ∧ a.num < 256 ∧ Sy.mk a b false = ⟨⟨a.num, 0, 0⟩, Kls.nil, false⟩)) : joinT ⟨a, b, false⟩ = (Tok.nil, false) := by
 unfold joinT; rw [if_neg (by simp), if_neg h]
theorem sy_plain {a b : Kls} : Sy.mk a b false = ⟨⟨a.num, 0, 0⟩, Kls.nil, false⟩ ↔ a.bits = 0 ∧ a.ext = 0 ∧ b.num = 0 ∧ b.bits = 0 ∧ b.ext = 0 := by
 obtain ⟨_, _, _⟩ := a
 obtain ⟨_, _, _⟩ := b
 simp [Kls.nil, and_assoc]
theorem sjoin_t {a b : Kls} (ha : 0 ≤ a.ext ∧ a.ext < 4294967296) (hb : 0 ≤ b.ext ∧ b.ext < 4294967296) (h0 : Heap) : Ret Tryz.prog 68 [.agg #[.int .i64 a.num, .int .i64 a.bits, .int .u32 a.ext, .int .i64 b.num, .int .i64 b.bits, .int .u32 b.ext, .bool true]] h0 fun r h' => r = retVal [.agg (tokV (joinT ⟨a, b, true⟩).1).toArray, .bool (joinT ⟨a, b, true⟩).2] ∧ Ext h0 h' := by
 refine ret_of_X Tryz.func68 rfl rfl fun w0 hw0 => ?_
 simp only [argE, Nat.zero_add, Nat.reduceAdd]
 have st := St.start h0
 refine X_seq (X_reg ?_)
 refine XR_wa (opl_bx rfl rfl) rfl rfl rfl ?_
 rintro _ hp ⟨p, rfl, hnew⟩
 have st := st.new hnew
 refine XR_wa (opl_new rfl) rfl rfl rfl ?_
 rintro _ hp ⟨pp1, rfl, hnew⟩
 replace st := st.new hnew
 refine XR_a (op_assign rfl) rfl rfl (XR_nil (X_seq (X_seq (X_reg ?_))))
 first | refine XR_a (op_field0 rfl rfl) rfl rfl ?_ | refine XR_a (op_fieldn rfl rfl) rfl rfl ?_
 refine XR_a (op_ld (st.cell 1 (i := 6) rfl rfl) rfl rfl rfl) rfl rfl ?_
 refine XR_a (op_move rfl) rfl rfl ?_
 first | refine XR_a (op_field0 rfl rfl) rfl rfl ?_ | refine XR_a (op_fieldn rfl rfl) rfl rfl ?_
 first | refine XR_a (op_field0 rfl rfl) rfl rfl ?_ | refine XR_a (op_fieldn rfl rfl) rfl rfl ?_
 refine XR_a (op_ld (st.cell 1 (i := 0) rfl rfl) rfl rfl rfl) rfl rfl ?_
 refine XR_a (op_geq rfl rfl) rfl rfl ?_
 refine XR_a (op_pick_t rfl rfl) rfl rfl (XR_a (op_move rfl) rfl rfl ?_)
 refine XR_if 13 rfl (fun h => ?_) (fun h => ?_)
 ·first | refine XR_a (op_field0 rfl rfl) rfl rfl ?_ | refine XR_a (op_fieldn rfl rfl) rfl rfl ?_
  first | refine XR_a (op_field0 rfl rfl) rfl rfl ?_ | refine XR_a (op_fieldn rfl rfl) rfl rfl ?_
  refine XR_a (op_ld (st.cell 1 (i := 0) rfl rfl) rfl rfl rfl) rfl rfl ?_
  refine XR_a (op_lss rfl rfl) rfl rfl ?_
  refine XR_a (op_pick_t rfl rfl) rfl rfl (XR_nil ?_)
  refine X_if rfl (fun h => ?_) (fun h => ?_)
  ·rw [joinT_m (by omega)]
   refine X_seq (X_reg ?_)
   refine XR_a (op_ldA (vs := syV ⟨a, b, true⟩) (st.cells 1 rfl) rfl rfl rfl rfl) rfl rfl ?_
   refine XR_wa (opl_call (smatch_spec (a := a) (b := b) (m := true) ha hb (by omega) _) rfl (by kernel_rfl)) rfl rfl rfl ?_
   rintro _ hp ⟨rfl, hx1⟩
   replace st := st.ext hx1
   generalize matchT ⟨a, b, true⟩ = M at *
   refine XR_a (op_extract rfl rfl) rfl rfl (XR_a (op_extract rfl rfl) rfl rfl ?_)
   refine XR_wn (opl_store_whole (us := tokV M.1) st 0 rfl rfl rfl rfl rfl (tokV_one _) rfl) rfl rfl fun _ hp st => ?_
   simp only [List.set_cons_zero, List.set_cons_succ] at st
   refine XR_a (op_assign rfl) rfl rfl (XR_nil ?_)
   refine X_ret (.cons (RV_agg (vs := tokV M.1) rfl rfl rfl (st.cells 0 rfl)) (.cons (.tmp rfl) .nil)) ?_
   exact ⟨rfl, st.low⟩
  ·refine X_skip (X_seq (X_reg ?_))
   first | refine XR_a (op_field0 rfl rfl) rfl rfl ?_ | refine XR_a (op_fieldn rfl rfl) rfl rfl ?_
   first | refine XR_a (op_field0 rfl rfl) rfl rfl ?_ | refine XR_a (op_fieldn rfl rfl) rfl rfl ?_
   refine XR_a (op_ld (st.cell 1 (i := 0) rfl rfl) rfl rfl rfl) rfl rfl ?_
   refine XR_a (op_assign rfl) rfl rfl (XR_nil (X_seq (X_seq (X_reg ?_))))
   first | refine XR_a (op_field0 rfl rfl) rfl rfl ?_ | refine XR_a (op_fieldn rfl rfl) rfl rfl ?_
   refine XR_a (op_ld (st.cell 1 (i := 6) rfl rfl) rfl rfl rfl) rfl rfl ?_
   refine XR_a (op_move rfl) rfl rfl (XR_no rfl rfl (XR_no rfl rfl (XR_a (op_pick_t rfl rfl) rfl rfl (XR_a (op_move rfl) rfl rfl (XR_no rfl rfl ?_)))))
   refine XR_no rfl rfl (XR_a (op_pick_t rfl rfl) rfl rfl (XR_a (op_move rfl) rfl rfl (XR_no rfl rfl (XR_no rfl rfl (XR_no rfl rfl ?_)))))
   refine XR_no rfl rfl (XR_no rfl rfl (XR_a (op_pick_t rfl rfl) rfl rfl (XR_nil (X_then rfl (X_seq ?_)))))
   refine X_reg ?_
   refine XR_a (op_build (ps := []) (cs := (tokV Tok.nil).toArray) rfl rfl) rfl rfl ?_
   refine XR_wn (opl_store_whole (us := tokV Tok.nil) st 0 rfl rfl rfl rfl rfl (tokV_one _) rfl) rfl rfl fun _ hp st => ?_
   simp only [List.set_cons_zero, List.set_cons_succ] at st
   refine XR_a (op_assign rfl) rfl rfl (XR_nil ?_)
   refine X_ret (.cons (RV_agg (vs := tokV Tok.nil) rfl rfl rfl (st.cells 0 rfl)) (.cons (.tmp rfl) .nil)) ?_
   rw [joinT_m0 (by omega)]
   exact ⟨rfl, st.low⟩
 ·refine XR_no rfl rfl (XR_no rfl rfl (XR_no rfl rfl (XR_no rfl rfl (XR_a (op_pick_f rfl rfl) rfl rfl (XR_nil ?_)))))
  refine X_else rfl (X_skip (X_seq (X_reg ?_)))
  first | refine XR_a (op_field0 rfl rfl) rfl rfl ?_ | refine XR_a (op_fieldn rfl rfl) rfl rfl ?_
  first | refine XR_a (op_field0 rfl rfl) rfl rfl ?_ | refine XR_a (op_fieldn rfl rfl) rfl rfl ?_
  refine XR_a (op_ld (st.cell 1 (i := 0) rfl rfl) rfl rfl rfl) rfl rfl ?_
  refine XR_a (op_assign rfl) rfl rfl (XR_nil (X_seq (X_seq (X_reg ?_))))
  first | refine XR_a (op_field0 rfl rfl) rfl rfl ?_ | refine XR_a (op_fieldn rfl rfl) rfl rfl ?_
  refine XR_a (op_ld (st.cell 1 (i := 6) rfl rfl) rfl rfl rfl) rfl rfl ?_
  refine XR_a (op_move rfl) rfl rfl (XR_no rfl rfl (XR_no rfl rfl (XR_a (op_pick_t rfl rfl) rfl rfl (XR_a (op_move rfl) rfl rfl (XR_no rfl rfl ?_)))))
  refine XR_no rfl rfl (XR_a (op_pick_t rfl rfl) rfl rfl (XR_a (op_move rfl) rfl rfl (XR_no rfl rfl (XR_no rfl rfl (XR_no rfl rfl ?_)))))
  refine XR_no rfl rfl (XR_no rfl rfl (XR_a (op_pick_t rfl rfl) rfl rfl (XR_nil (X_then rfl (X_seq ?_)))))
  refine X_reg ?_
  refine XR_a (op_build (ps := []) (cs := (tokV Tok.nil).toArray) rfl rfl) rfl rfl ?_
  refine XR_wn (opl_store_whole (us := tokV Tok.nil) st 0 rfl rfl rfl rfl rfl (tokV_one _) rfl) rfl rfl fun _ hp st => ?_
  simp only [List.set_cons_zero, List.set_cons_succ] at st
  refine XR_a (op_assign rfl) rfl rfl (XR_nil ?_)
  refine X_ret (.cons (RV_agg (vs := tokV Tok.nil) rfl rfl rfl (st.cells 0 rfl)) (.cons (.tmp rfl) .nil)) ?_
  rw [joinT_m0 (by omega)]
  exact ⟨rfl, st.low⟩
theorem sjoin_f {a b : Kls} (h0 : Heap) : Ret Tryz.prog 68 [.agg #[.int .i64 a.num, .int .i64 a.bits, .int .u32 a.ext, .int .i64 b.num, .int .i64 b.bits, .int .u32 b.ext, .bool false]] h0 fun r h' => r = retVal [.agg (tokV (joinT ⟨a, b, false⟩).1).toArray, .bool (joinT ⟨a, b, false⟩).2] ∧ Ext h0 h' := by
 refine ret_of_X Tryz.func68 rfl rfl fun w0 hw0 => ?_
 simp only [argE, Nat.zero_add, Nat.reduceAdd]
 have st := St.start h0
 refine X_seq (X_reg ?_)
 refine XR_wa (opl_bx rfl rfl) rfl rfl rfl ?_
 rintro _ hp ⟨p, rfl, hnew⟩
 have st := st.new hnew
 refine XR_wa (opl_new rfl) rfl rfl rfl ?_
 rintro _ hp ⟨pp1, rfl, hnew⟩
 replace st := st.new hnew
 refine XR_a (op_assign rfl) rfl rfl (XR_nil (X_seq (X_seq (X_reg ?_))))
 first | refine XR_a (op_field0 rfl rfl) rfl rfl ?_ | refine XR_a (op_fieldn rfl rfl) rfl rfl ?_
 refine XR_a (op_ld (st.cell 1 (i := 6) rfl rfl) rfl rfl rfl) rfl rfl ?_
 refine XR_a (op_move rfl) rfl rfl (XR_no rfl rfl (XR_no rfl rfl (XR_no rfl rfl (XR_no rfl rfl (XR_a (op_pick_f rfl rfl) rfl rfl ?_)))))
 refine XR_a (op_move rfl) rfl rfl (XR_no rfl rfl (XR_no rfl rfl (XR_no rfl rfl (XR_no rfl rfl (XR_a (op_pick_f rfl rfl) rfl rfl ?_)))))
 refine XR_nil (X_else rfl (X_skip (X_seq (X_reg ?_))))
 first | refine XR_a (op_field0 rfl rfl) rfl rfl ?_ | refine XR_a (op_fieldn rfl rfl) rfl rfl ?_
 first | refine XR_a (op_field0 rfl rfl) rfl rfl ?_ | refine XR_a (op_fieldn rfl rfl) rfl rfl ?_
 refine XR_a (op_ld (st.cell 1 (i := 0) rfl rfl) rfl rfl rfl) rfl rfl ?_
 refine XR_a (op_assign rfl) rfl rfl (XR_nil (X_seq (X_seq (X_reg ?_))))
 first | refine XR_a (op_field0 rfl rfl) rfl rfl ?_ | refine XR_a (op_fieldn rfl rfl) rfl rfl ?_
 refine XR_a (op_ld (st.cell 1 (i := 6) rfl rfl) rfl rfl rfl) rfl rfl ?_
 refine XR_a (op_move rfl) rfl rfl (XR_a (op_move rfl) rfl rfl ?_)
 refine XR_a (op_lss rfl rfl) rfl rfl ?_
 refine XR_a (op_pick_f rfl rfl) rfl rfl (XR_a (op_move rfl) rfl rfl ?_)
 refine XR_if 32 rfl (fun h => ?_) (fun h => ?_)
 ·refine XR_no rfl rfl (XR_no rfl rfl (XR_a (op_pick_t rfl rfl) rfl rfl (XR_a (op_move rfl) rfl rfl (XR_no rfl rfl (XR_no rfl rfl ?_)))))
  refine XR_no rfl rfl (XR_no rfl rfl (XR_no rfl rfl (XR_a (op_pick_t rfl rfl) rfl rfl (XR_nil (X_then rfl ?_)))))
  refine X_seq (X_reg ?_)
  refine XR_a (op_build (ps := []) (cs := (tokV Tok.nil).toArray) rfl rfl) rfl rfl ?_
  refine XR_wn (opl_store_whole (us := tokV Tok.nil) st 0 rfl rfl rfl rfl rfl (tokV_one _) rfl) rfl rfl fun _ hp st => ?_
  simp only [List.set_cons_zero, List.set_cons_succ] at st
  refine XR_a (op_assign rfl) rfl rfl (XR_nil ?_)
  refine X_ret (.cons (RV_agg (vs := tokV Tok.nil) rfl rfl rfl (st.cells 0 rfl)) (.cons (.tmp rfl) .nil)) ?_
  first
   | rw [joinT_b0 (fun hh => by omega)]
   | rw [joinT_b0 (fun hh => h hh.2.2)]
  exact ⟨rfl, st.low⟩
 ·refine XR_a (op_move rfl) rfl rfl ?_
  refine XR_a (op_geq rfl rfl) rfl rfl ?_
  refine XR_a (op_pick_f rfl rfl) rfl rfl (XR_a (op_move rfl) rfl rfl ?_)
  refine XR_if 36 rfl (fun h => ?_) (fun h => ?_)
  ·refine XR_no rfl rfl (XR_no rfl rfl (XR_no rfl rfl (XR_no rfl rfl (XR_no rfl rfl (XR_a (op_pick_t rfl rfl) rfl rfl ?_)))))
   refine XR_nil (X_then rfl (X_seq (X_reg ?_)))
   refine XR_a (op_build (ps := []) (cs := (tokV Tok.nil).toArray) rfl rfl) rfl rfl ?_
   refine XR_wn (opl_store_whole (us := tokV Tok.nil) st 0 rfl rfl rfl rfl rfl (tokV_one _) rfl) rfl rfl fun _ hp st => ?_
   simp only [List.set_cons_zero, List.set_cons_succ] at st
   refine XR_a (op_assign rfl) rfl rfl (XR_nil ?_)
   refine X_ret (.cons (RV_agg (vs := tokV Tok.nil) rfl rfl rfl (st.cells 0 rfl)) (.cons (.tmp rfl) .nil)) ?_
   first
    | rw [joinT_b0 (fun hh => by omega)]
    | rw [joinT_b0 (fun hh => h hh.2.2)]
   exact ⟨rfl, st.low⟩
  ·refine XR_a (op_ldA (vs := syV ⟨a, b, false⟩) (st.cells 1 rfl) rfl rfl rfl rfl) rfl rfl ?_
   refine XR_a (op_move rfl) rfl rfl ?_
   refine XR_a (op_build (ps := [(0, .int .i64 a.num)]) (cs := (clsV ⟨a.num, 0, 0⟩).toArray) rfl rfl) rfl rfl ?_
   refine XR_a (op_build (ps := [(0, .agg (clsV ⟨a.num, 0, 0⟩).toArray)]) (cs := (syV ⟨⟨a.num, 0, 0⟩, Kls.nil, false⟩).toArray) rfl rfl) rfl rfl ?_
   refine XR_a (op_neqH rfl rfl (neq_flat (ks := [.i .i64, .i .i64, .i .u32, .i .i64, .i .i64, .i .u32, .b]) (by kernel_rfl) (by kernel_rfl) rfl rfl) (by kernel_rfl)) rfl rfl ?_
   refine XR_as (.bool (decide (Sy.mk a b false ≠ ⟨⟨a.num, 0, 0⟩, Kls.nil, false⟩))) (congrArg Value.bool ?_) ?_
   ·rw [eqL_sy]; simp
   refine XR_a (op_pick_f rfl rfl) rfl rfl (XR_nil ?_)
   refine X_if rfl (fun h => ?_) (fun h => ?_)
   ·refine X_seq (X_reg ?_)
    refine XR_a (op_build (ps := []) (cs := (tokV Tok.nil).toArray) rfl rfl) rfl rfl ?_
    refine XR_wn (opl_store_whole (us := tokV Tok.nil) st 0 rfl rfl rfl rfl rfl (tokV_one _) rfl) rfl rfl fun _ hp st => ?_
    simp only [List.set_cons_zero, List.set_cons_succ] at st
    refine XR_a (op_assign rfl) rfl rfl (XR_nil ?_)
    refine X_ret (.cons (RV_agg (vs := tokV Tok.nil) rfl rfl rfl (st.cells 0 rfl)) (.cons (.tmp rfl) .nil)) ?_
    first
     | rw [joinT_b0 (fun hh => by omega)]
     | rw [joinT_b0 (fun hh => h hh.2.2)]
    exact ⟨rfl, st.low⟩
   ·refine X_skip (X_seq (X_reg (XR_a (op_move rfl) rfl rfl ?_)))
    refine XR_a (op_convI rfl rfl (by simp only [inK]; omega)) rfl rfl ?_
    refine XR_a (op_build (ps := [(0, .int .u8 a.num)]) (cs := (tokV ⟨a.num, 0, 0⟩).toArray) rfl rfl) rfl rfl ?_
    refine XR_wn (opl_store_whole (us := tokV ⟨a.num, 0, 0⟩) st 0 rfl rfl rfl rfl rfl (tokV_one _) rfl) rfl rfl fun _ hp st => ?_
    simp only [List.set_cons_zero, List.set_cons_succ] at st
    refine XR_a (op_assign rfl) rfl rfl (XR_nil ?_)
    refine X_ret (.cons (RV_agg (vs := tokV ⟨a.num, 0, 0⟩) rfl rfl rfl (st.cells 0 rfl)) (.cons (.tmp rfl) .nil)) ?_
    rw [joinT_b (by omega) (Decidable.not_not.1 h)]
    exact ⟨rfl, st.low⟩
theorem sjoin_spec {r : Sy} (ha : 0 ≤ r.a.ext ∧ r.a.ext < 4294967296) (hb : 0 ≤ r.b.ext ∧ r.b.ext < 4294967296) (h0 : Heap) : Ret Tryz.prog 68 [.agg (syV r).toArray] h0 fun v h' => v = retVal [.agg (tokV (joinT r).1).toArray, .bool (joinT r).2] ∧ Ext h0 h' := by
 obtain ⟨a, b, m⟩ := r
 cases m with
 | true => exact sjoin_t ha hb h0
 | false => exact sjoin_f h0
theorem join_t {a b : Kls} (ha : 0 ≤ a.ext ∧ a.ext < 4294967296) (hb : 0 ≤ b.ext ∧ b.ext < 4294967296) (h0 : Heap) : Ret Tryz.prog 39 [.agg #[.int .i64 a.num, .int .i64 a.bits, .int .u32 a.ext], .agg #[.int .i64 b.num, .int .i64 b.bits, .int .u32 b.ext], .bool true] h0 fun r h' => r = retVal [.agg (tokV (joinT ⟨a, b, true⟩).1).toArray, .bool (joinT ⟨a, b, true⟩).2] ∧ Ext h0 h' := by
 have bx := valP_bd (c := ⟨a.num - 257, a.bits, a.ext⟩)
 have by_ := valP_bd (c := b)
 refine ret_of_X Tryz.func39 rfl rfl fun w0 hw0 => ?_
 simp only [argE, Nat.zero_add, Nat.reduceAdd]
 have st := St.start h0
 refine X_seq (X_reg ?_)
 refine XR_wa (opl_bx rfl rfl) rfl rfl rfl ?_
 rintro _ hp ⟨p, rfl, hnew⟩
 have st := st.new hnew
 refine XR_wa (opl_bx rfl rfl) rfl rfl rfl ?_
 rintro _ hp ⟨p, rfl, hnew⟩
 have st := st.new hnew
 refine XR_wa (opl_new rfl) rfl rfl rfl ?_
 rintro _ hp ⟨pp1, rfl, hnew⟩
 replace st := st.new hnew
 refine XR_a (op_assign rfl) rfl rfl (XR_nil (X_seq (X_seq (X_reg (XR_a (op_move rfl) rfl rfl ?_)))))
 refine XR_a (op_not rfl) rfl rfl ?_
 refine XR_nil (X_else rfl (X_skip (X_seq (X_seq (X_reg ?_)))))
 first | refine XR_a (op_field0 rfl rfl) rfl rfl ?_ | refine XR_a (op_fieldn rfl rfl) rfl rfl ?_
 refine XR_a (op_ld (st.cell 2 (i := 0) rfl rfl) rfl rfl rfl) rfl rfl ?_
 refine XR_a (op_lss rfl rfl) rfl rfl ?_
 refine XR_a (op_move rfl) rfl rfl ?_
 refine XR_if 56 rfl (fun h => ?_) (fun h => ?_)
 ·refine XR_no rfl rfl (XR_no rfl rfl (XR_no rfl rfl (XR_a (op_pick_t rfl rfl) rfl rfl (XR_nil (X_then rfl ?_)))))
  refine X_seq (X_reg ?_)
  refine XR_a (op_build (ps := []) (cs := (tokV Tok.nil).toArray) rfl rfl) rfl rfl ?_
  refine XR_wn (opl_store_whole (us := tokV Tok.nil) st 0 rfl rfl rfl rfl rfl (tokV_one _) rfl) rfl rfl fun _ hp st => ?_
  simp only [List.set_cons_zero, List.set_cons_succ] at st
  refine XR_a (op_assign rfl) rfl rfl (XR_nil ?_)
  refine X_ret (.cons (RV_agg (vs := tokV Tok.nil) rfl rfl rfl (st.cells 0 rfl)) (.cons (.tmp rfl) .nil)) ?_
  rw [joinT_m0 (by omega)]
  exact ⟨rfl, st.low⟩
 ·first | refine XR_a (op_field0 rfl rfl) rfl rfl ?_ | refine XR_a (op_fieldn rfl rfl) rfl rfl ?_
  refine XR_a (op_ld (st.cell 2 (i := 0) rfl rfl) rfl rfl rfl) rfl rfl ?_
  refine XR_a (op_gtr rfl rfl) rfl rfl ?_
  refine XR_a (op_pick_f rfl rfl) rfl rfl (XR_nil ?_)
  refine X_if rfl (fun h => ?_) (fun h => ?_)
  ·refine X_seq (X_reg ?_)
   refine XR_a (op_build (ps := []) (cs := (tokV Tok.nil).toArray) rfl rfl) rfl rfl ?_
   refine XR_wn (opl_store_whole (us := tokV Tok.nil) st 0 rfl rfl rfl rfl rfl (tokV_one _) rfl) rfl rfl fun _ hp st => ?_
   simp only [List.set_cons_zero, List.set_cons_succ] at st
   refine XR_a (op_assign rfl) rfl rfl (XR_nil ?_)
   refine X_ret (.cons (RV_agg (vs := tokV Tok.nil) rfl rfl rfl (st.cells 0 rfl)) (.cons (.tmp rfl) .nil)) ?_
   rw [joinT_m0 (by omega)]
   exact ⟨rfl, st.low⟩
  ·rw [joinT_m (by omega), matchT_eq]
   refine X_skip (X_seq (X_reg ?_))
   first | refine XR_a (op_field0 rfl rfl) rfl rfl ?_ | refine XR_a (op_fieldn rfl rfl) rfl rfl ?_
   refine XR_a (op_ld (st.cell 2 (i := 0) rfl rfl) rfl rfl rfl) rfl rfl ?_
   refine XR_a (op_subI rfl rfl (by simp only [inK]; omega)) rfl rfl ?_
   first | refine XR_a (op_field0 rfl rfl) rfl rfl ?_ | refine XR_a (op_fieldn rfl rfl) rfl rfl ?_
   refine XR_a (op_ld (st.cell 2 (i := 1) rfl rfl) rfl rfl rfl) rfl rfl ?_
   first | refine XR_a (op_field0 rfl rfl) rfl rfl ?_ | refine XR_a (op_fieldn rfl rfl) rfl rfl ?_
   refine XR_a (op_ld (st.cell 2 (i := 2) rfl rfl) rfl rfl rfl) rfl rfl ?_
   refine XR_a (op_build (ps := [(0, .int .i64 (a.num - 257)), (1, .int .i64 a.bits), (2, .int .u32 a.ext)]) (cs := (clsV ⟨a.num - 257, a.bits, a.ext⟩).toArray) rfl rfl) rfl rfl ?_
   refine XR_wa (opl_call (val_ref (c := ⟨a.num - 257, a.bits, a.ext⟩) ha _) rfl (by kernel_rfl)) rfl rfl rfl ?_
   rintro _ hp ⟨rfl, hx1⟩
   replace st := st.ext hx1
   refine XR_a (op_move rfl) rfl rfl (XR_a (op_extract rfl rfl) rfl rfl (XR_a (op_extract rfl rfl) rfl rfl (XR_a (op_assign rfl) rfl rfl (XR_a (op_assign rfl) rfl rfl (XR_nil ?_)))))
   refine X_seq (X_reg ?_)
   refine XR_a (op_ldA (vs := clsV b) (st.cells 1 rfl) rfl rfl rfl rfl) rfl rfl ?_
   refine XR_wa (opl_call (val_ref (c := b) hb _) rfl (by kernel_rfl)) rfl rfl rfl ?_
   rintro _ hp ⟨rfl, hx2⟩
   replace st := st.ext hx2
   generalize valP ⟨a.num - 257, a.bits, a.ext⟩ = X at *
   generalize valP b = Y at *
   refine XR_a (op_move rfl) rfl rfl (XR_a (op_extract rfl rfl) rfl rfl (XR_a (op_extract rfl rfl) rfl rfl (XR_a (op_assign rfl) rfl rfl (XR_a (op_assign rfl) rfl rfl (XR_nil ?_)))))
   refine X_seq (X_reg (XR_a (op_move rfl) rfl rfl ?_))
   refine XR_a (op_addI rfl rfl (by simp only [inK]; omega)) rfl rfl ?_
   refine XR_a (op_move rfl) rfl rfl ?_
   refine XR_a (op_addI rfl rfl (by simp only [inK]; omega)) rfl rfl ?_
   refine XR_a (op_build (ps := [(1, .int .i64 (X.1 + 3)), (2, .int .i64 (Y.1 + 1))]) (cs := (tokV ⟨0, X.1 + 3, Y.1 + 1⟩).toArray) rfl rfl) rfl rfl ?_
   generalize Tok.mk 0 (X.1 + 3) (Y.1 + 1) = T at *
   refine XR_wa (opl_new rfl) rfl rfl rfl ?_
   rintro _ hp ⟨pp2, rfl, hnew⟩
   replace st := st.new hnew
   by_cases hX : X.2 = true
   ·have st := st
    refine XR_wn (opl_store_whole (us := tokV T) st 0 rfl rfl rfl rfl rfl (tokV_one _) rfl) rfl rfl fun _ hp st => ?_
    simp only [List.set_cons_zero, List.set_cons_succ] at st
    refine XR_nil (X_seq (X_seq (X_reg (XR_a (op_move rfl) rfl rfl ?_))))
    by_cases hY : Y.2 = true
    ·have st := st
     refine XR_a (op_not rfl) rfl rfl ?_
     refine XR_as (.bool false) (by rw [hX]; rfl) ?_
     refine XR_a (op_move rfl) rfl rfl (XR_a (op_move rfl) rfl rfl ?_)
     refine XR_a (op_not rfl) rfl rfl ?_
     refine XR_as (.bool false) (by rw [hY]; rfl) ?_
     refine XR_a (op_pick_f rfl rfl) rfl rfl (XR_a (op_move rfl) rfl rfl ?_)
     refine XR_a (op_ldA (st.cells 0 rfl) rfl rfl rfl rfl) rfl rfl ?_
     refine XR_wa (opl_call (tright_ref T _) rfl (by kernel_rfl)) rfl rfl rfl ?_
     rintro _ hp ⟨rfl, hx3⟩
     replace st := st.ext hx3
     first | refine XR_a (op_notd rfl) rfl rfl ?_ | refine XR_a (op_not rfl) rfl rfl ?_
     refine XR_a (op_pick_f rfl rfl) rfl rfl (XR_nil ?_)
     refine X_if rfl (fun h => ?_) (fun h => ?_)
     ·refine X_seq (X_reg ?_)
      refine XR_a (op_build (ps := []) (cs := (tokV Tok.nil).toArray) rfl rfl) rfl rfl ?_
      refine XR_wn (opl_store_whole (us := tokV Tok.nil) st 1 rfl rfl rfl rfl rfl (tokV_one _) rfl) rfl rfl fun _ hp st => ?_
      simp only [List.set_cons_zero, List.set_cons_succ] at st
      refine XR_a (op_assign rfl) rfl rfl (XR_nil ?_)
      refine X_ret (.cons (RV_agg (vs := tokV Tok.nil) rfl rfl rfl (st.cells 1 rfl)) (.cons (.tmp rfl) .nil)) ?_
      rw [if_neg (fun hh => h hh.2.2)]
      exact ⟨rfl, st.low⟩
     ·refine X_skip (X_seq (X_reg ?_))
      refine XR_a (op_ldA (st.cells 0 rfl) rfl rfl rfl rfl) rfl rfl ?_
      refine XR_wn (opl_store_whole (us := tokV T) st 1 rfl rfl rfl rfl rfl (tokV_one _) rfl) rfl rfl fun _ hp st => ?_
      simp only [List.set_cons_zero, List.set_cons_succ] at st
      refine XR_a (op_assign rfl) rfl rfl (XR_nil ?_)
      refine X_ret (.cons (RV_agg (vs := tokV T) rfl rfl rfl (st.cells 1 rfl)) (.cons (.tmp rfl) .nil)) ?_
      rw [if_pos ⟨hX, hY, Decidable.not_not.1 h⟩]
      exact ⟨rfl, st.low⟩
    ·have hY' : Y.2 = false := by simpa using hY
     refine XR_a (op_not rfl) rfl rfl ?_
     refine XR_as (.bool false) (by rw [hX]; rfl) ?_
     refine XR_a (op_move rfl) rfl rfl (XR_a (op_move rfl) rfl rfl ?_)
     refine XR_a (op_not rfl) rfl rfl ?_
     refine XR_as (.bool true) (by rw [hY']; rfl) ?_
     refine XR_a (op_pick_f rfl rfl) rfl rfl (XR_a (op_move rfl) rfl rfl (XR_no rfl rfl (XR_no rfl rfl (XR_no rfl rfl (XR_a (op_pick_t rfl rfl) rfl rfl ?_)))))
     refine XR_nil (X_then rfl (X_seq (X_reg ?_)))
     refine XR_a (op_build (ps := []) (cs := (tokV Tok.nil).toArray) rfl rfl) rfl rfl ?_
     refine XR_wn (opl_store_whole (us := tokV Tok.nil) st 1 rfl rfl rfl rfl rfl (tokV_one _) rfl) rfl rfl fun _ hp st => ?_
     simp only [List.set_cons_zero, List.set_cons_succ] at st
     refine XR_a (op_assign rfl) rfl rfl (XR_nil ?_)
     refine X_ret (.cons (RV_agg (vs := tokV Tok.nil) rfl rfl rfl (st.cells 1 rfl)) (.cons (.tmp rfl) .nil)) ?_
     rw [if_neg (fun hh => hY hh.2.1)]
     exact ⟨rfl, st.low⟩
   ·have hX' : X.2 = false := by simpa using hX
    refine XR_wn (opl_store_whole (us := tokV T) st 0 rfl rfl rfl rfl rfl (tokV_one _) rfl) rfl rfl fun _ hp st => ?_
    simp only [List.set_cons_zero, List.set_cons_succ] at st
    refine XR_nil (X_seq (X_seq (X_reg (XR_a (op_move rfl) rfl rfl ?_))))
    refine XR_a (op_not rfl) rfl rfl ?_
    refine XR_as (.bool true) (by rw [hX']; rfl) ?_
    refine XR_a (op_move rfl) rfl rfl (XR_no rfl rfl (XR_no rfl rfl (XR_a (op_pick_t rfl rfl) rfl rfl (XR_a (op_move rfl) rfl rfl (XR_no rfl rfl ?_)))))
    refine XR_no rfl rfl (XR_no rfl rfl (XR_a (op_pick_t rfl rfl) rfl rfl (XR_nil (X_then rfl (X_seq ?_)))))
    refine X_reg ?_
    refine XR_a (op_build (ps := []) (cs := (tokV Tok.nil).toArray) rfl rfl) rfl rfl ?_
    refine XR_wn (opl_store_whole (us := tokV Tok.nil) st 1 rfl rfl rfl rfl rfl (tokV_one _) rfl) rfl rfl fun _ hp st => ?_
    simp only [List.set_cons_zero, List.set_cons_succ] at st
    refine XR_a (op_assign rfl) rfl rfl (XR_nil ?_)
    refine X_ret (.cons (RV_agg (vs := tokV Tok.nil) rfl rfl rfl (st.cells 1 rfl)) (.cons (.tmp rfl) .nil)) ?_
    rw [if_neg (fun hh => hX hh.1)]
    exact ⟨rfl, st.low⟩
theorem join_f {a b : Kls} (h0 : Heap) : Ret Tryz.prog 39 [.agg #[.int .i64 a.num, .int .i64 a.bits, .int .u32 a.ext], .agg #[.int .i64 b.num, .int .i64 b.bits, .int .u32 b.ext], .bool false] h0 fun r h' => r = retVal [.agg (tokV (joinT ⟨a, b, false⟩).1).toArray, .bool (joinT ⟨a, b, false⟩).2] ∧ Ext h0 h' := by
 refine ret_of_X Tryz.func39 rfl rfl fun w0 hw0 => ?_
 simp only [argE, Nat.zero_add, Nat.reduceAdd]
 have st := St.start h0
 refine X_seq (X_reg ?_)
 refine XR_wa (opl_bx rfl rfl) rfl rfl rfl ?_
 rintro _ hp ⟨p, rfl, hnew⟩
 have st := st.new hnew
 refine XR_wa (opl_bx rfl rfl) rfl rfl rfl ?_
 rintro _ hp ⟨p, rfl, hnew⟩
 have st := st.new hnew
 refine XR_wa (opl_new rfl) rfl rfl rfl ?_
 rintro _ hp ⟨pp1, rfl, hnew⟩
 replace st := st.new hnew
 refine XR_a (op_assign rfl) rfl rfl (XR_nil (X_seq (X_seq (X_reg (XR_a (op_move rfl) rfl rfl ?_)))))
 refine XR_a (op_not rfl) rfl rfl ?_
 refine XR_nil (X_then rfl (X_seq (X_seq (X_reg ?_))))
 first | refine XR_a (op_field0 rfl rfl) rfl rfl ?_ | refine XR_a (op_fieldn rfl rfl) rfl rfl ?_
 refine XR_a (op_ld (st.cell 2 (i := 0) rfl rfl) rfl rfl rfl) rfl rfl ?_
 refine XR_a (op_lss rfl rfl) rfl rfl ?_
 refine XR_a (op_move rfl) rfl rfl ?_
 refine XR_if 18 rfl (fun h => ?_) (fun h => ?_)
 ·refine XR_no rfl rfl (XR_no rfl rfl (XR_no rfl rfl (XR_a (op_pick_t rfl rfl) rfl rfl (XR_a (op_move rfl) rfl rfl (XR_no rfl rfl ?_)))))
  refine XR_no rfl rfl (XR_no rfl rfl (XR_a (op_pick_t rfl rfl) rfl rfl (XR_a (op_move rfl) rfl rfl (XR_no rfl rfl (XR_no rfl rfl ?_)))))
  refine XR_no rfl rfl (XR_a (op_pick_t rfl rfl) rfl rfl (XR_a (op_move rfl) rfl rfl (XR_no rfl rfl (XR_no rfl rfl (XR_no rfl rfl ?_)))))
  refine XR_a (op_pick_t rfl rfl) rfl rfl (XR_a (op_move rfl) rfl rfl (XR_no rfl rfl (XR_no rfl rfl (XR_no rfl rfl (XR_a (op_pick_t rfl rfl) rfl rfl ?_)))))
  refine XR_a (op_move rfl) rfl rfl (XR_no rfl rfl (XR_no rfl rfl (XR_no rfl rfl (XR_a (op_pick_t rfl rfl) rfl rfl (XR_nil ?_)))))
  refine X_then rfl (X_seq (X_reg ?_))
  refine XR_a (op_build (ps := []) (cs := (tokV Tok.nil).toArray) rfl rfl) rfl rfl ?_
  refine XR_wn (opl_store_whole (us := tokV Tok.nil) st 0 rfl rfl rfl rfl rfl (tokV_one _) rfl) rfl rfl fun _ hp st => ?_
  simp only [List.set_cons_zero, List.set_cons_succ] at st
  refine XR_a (op_assign rfl) rfl rfl (XR_nil ?_)
  refine X_ret (.cons (RV_agg (vs := tokV Tok.nil) rfl rfl rfl (st.cells 0 rfl)) (.cons (.tmp rfl) .nil)) ?_
  rw [joinT_b0 (by rw [sy_plain]; omega)]
  exact ⟨rfl, st.low⟩
 ·first | refine XR_a (op_field0 rfl rfl) rfl rfl ?_ | refine XR_a (op_fieldn rfl rfl) rfl rfl ?_
  refine XR_a (op_ld (st.cell 2 (i := 0) rfl rfl) rfl rfl rfl) rfl rfl ?_
  refine XR_a (op_gtr rfl rfl) rfl rfl ?_
  refine XR_a (op_pick_f rfl rfl) rfl rfl (XR_a (op_move rfl) rfl rfl ?_)
  refine XR_if 23 rfl (fun h => ?_) (fun h => ?_)
  ·refine XR_no rfl rfl (XR_no rfl rfl (XR_no rfl rfl (XR_a (op_pick_t rfl rfl) rfl rfl (XR_a (op_move rfl) rfl rfl (XR_no rfl rfl ?_)))))
   refine XR_no rfl rfl (XR_no rfl rfl (XR_a (op_pick_t rfl rfl) rfl rfl (XR_a (op_move rfl) rfl rfl (XR_no rfl rfl (XR_no rfl rfl ?_)))))
   refine XR_no rfl rfl (XR_a (op_pick_t rfl rfl) rfl rfl (XR_a (op_move rfl) rfl rfl (XR_no rfl rfl (XR_no rfl rfl (XR_no rfl rfl ?_)))))
   refine XR_a (op_pick_t rfl rfl) rfl rfl (XR_a (op_move rfl) rfl rfl (XR_no rfl rfl (XR_no rfl rfl (XR_no rfl rfl (XR_a (op_pick_t rfl rfl) rfl rfl ?_)))))
   refine XR_nil (X_then rfl (X_seq (X_reg ?_)))
   refine XR_a (op_build (ps := []) (cs := (tokV Tok.nil).toArray) rfl rfl) rfl rfl ?_
   refine XR_wn (opl_store_whole (us := tokV Tok.nil) st 0 rfl rfl rfl rfl rfl (tokV_one _) rfl) rfl rfl fun _ hp st => ?_
   simp only [List.set_cons_zero, List.set_cons_succ] at st
   refine XR_a (op_assign rfl) rfl rfl (XR_nil ?_)
   refine X_ret (.cons (RV_agg (vs := tokV Tok.nil) rfl rfl rfl (st.cells 0 rfl)) (.cons (.tmp rfl) .nil)) ?_
   rw [joinT_b0 (by rw [sy_plain]; omega)]
   exact ⟨rfl, st.low⟩
  ·first | refine XR_a (op_field0 rfl rfl) rfl rfl ?_ | refine XR_a (op_fieldn rfl rfl) rfl rfl ?_
   refine XR_a (op_ld (st.cell 2 (i := 1) rfl rfl) rfl rfl rfl) rfl rfl ?_
   refine XR_a (op_neq rfl rfl) rfl rfl ?_
   refine XR_a (op_pick_f rfl rfl) rfl rfl (XR_a (op_move rfl) rfl rfl ?_)
   refine XR_if 28 rfl (fun h => ?_) (fun h => ?_)
   ·refine XR_no rfl rfl (XR_no rfl rfl (XR_no rfl rfl (XR_a (op_pick_t rfl rfl) rfl rfl (XR_a (op_move rfl) rfl rfl (XR_no rfl rfl ?_)))))
    refine XR_no rfl rfl (XR_no rfl rfl (XR_a (op_pick_t rfl rfl) rfl rfl (XR_a (op_move rfl) rfl rfl (XR_no rfl rfl (XR_no rfl rfl ?_)))))
    refine XR_no rfl rfl (XR_a (op_pick_t rfl rfl) rfl rfl (XR_a (op_move rfl) rfl rfl (XR_no rfl rfl (XR_no rfl rfl (XR_no rfl rfl ?_)))))
    refine XR_a (op_pick_t rfl rfl) rfl rfl (XR_nil (X_then rfl (X_seq (X_reg ?_))))
    refine XR_a (op_build (ps := []) (cs := (tokV Tok.nil).toArray) rfl rfl) rfl rfl ?_
    refine XR_wn (opl_store_whole (us := tokV Tok.nil) st 0 rfl rfl rfl rfl rfl (tokV_one _) rfl) rfl rfl fun _ hp st => ?_
    simp only [List.set_cons_zero, List.set_cons_succ] at st
    refine XR_a (op_assign rfl) rfl rfl (XR_nil ?_)
    refine X_ret (.cons (RV_agg (vs := tokV Tok.nil) rfl rfl rfl (st.cells 0 rfl)) (.cons (.tmp rfl) .nil)) ?_
    rw [joinT_b0 (by rw [sy_plain]; omega)]
    exact ⟨rfl, st.low⟩
   ·first | refine XR_a (op_field0 rfl rfl) rfl rfl ?_ | refine XR_a (op_fieldn rfl rfl) rfl rfl ?_
    refine XR_a (op_ld (st.cell 2 (i := 2) rfl rfl) rfl rfl rfl) rfl rfl ?_
    refine XR_a (op_neq rfl rfl) rfl rfl ?_
    refine XR_a (op_pick_f rfl rfl) rfl rfl (XR_a (op_move rfl) rfl rfl ?_)
    refine XR_if 33 rfl (fun h => ?_) (fun h => ?_)
    ·refine XR_no rfl rfl (XR_no rfl rfl (XR_no rfl rfl (XR_a (op_pick_t rfl rfl) rfl rfl (XR_a (op_move rfl) rfl rfl (XR_no rfl rfl ?_)))))
     refine XR_no rfl rfl (XR_no rfl rfl (XR_a (op_pick_t rfl rfl) rfl rfl (XR_a (op_move rfl) rfl rfl (XR_no rfl rfl (XR_no rfl rfl ?_)))))
     refine XR_no rfl rfl (XR_a (op_pick_t rfl rfl) rfl rfl (XR_nil (X_then rfl (X_seq (X_reg ?_)))))
     refine XR_a (op_build (ps := []) (cs := (tokV Tok.nil).toArray) rfl rfl) rfl rfl ?_
     refine XR_wn (opl_store_whole (us := tokV Tok.nil) st 0 rfl rfl rfl rfl rfl (tokV_one _) rfl) rfl rfl fun _ hp st => ?_
     simp only [List.set_cons_zero, List.set_cons_succ] at st
     refine XR_a (op_assign rfl) rfl rfl (XR_nil ?_)
     refine X_ret (.cons (RV_agg (vs := tokV Tok.nil) rfl rfl rfl (st.cells 0 rfl)) (.cons (.tmp rfl) .nil)) ?_
     rw [joinT_b0 (by rw [sy_plain]; omega)]
     exact ⟨rfl, st.low⟩
    ·first | refine XR_a (op_field0 rfl rfl) rfl rfl ?_ | refine XR_a (op_fieldn rfl rfl) rfl rfl ?_
     refine XR_a (op_ld (st.cell 1 (i := 0) rfl rfl) rfl rfl rfl) rfl rfl ?_
     refine XR_a (op_neq rfl rfl) rfl rfl ?_
     refine XR_a (op_pick_f rfl rfl) rfl rfl (XR_a (op_move rfl) rfl rfl ?_)
     refine XR_if 38 rfl (fun h => ?_) (fun h => ?_)
     ·refine XR_no rfl rfl (XR_no rfl rfl (XR_no rfl rfl (XR_a (op_pick_t rfl rfl) rfl rfl (XR_a (op_move rfl) rfl rfl (XR_no rfl rfl ?_)))))
      refine XR_no rfl rfl (XR_no rfl rfl (XR_a (op_pick_t rfl rfl) rfl rfl (XR_nil (X_then rfl (X_seq ?_)))))
      refine X_reg ?_
      refine XR_a (op_build (ps := []) (cs := (tokV Tok.nil).toArray) rfl rfl) rfl rfl ?_
      refine XR_wn (opl_store_whole (us := tokV Tok.nil) st 0 rfl rfl rfl rfl rfl (tokV_one _) rfl) rfl rfl fun _ hp st => ?_
      simp only [List.set_cons_zero, List.set_cons_succ] at st
      refine XR_a (op_assign rfl) rfl rfl (XR_nil ?_)
      refine X_ret (.cons (RV_agg (vs := tokV Tok.nil) rfl rfl rfl (st.cells 0 rfl)) (.cons (.tmp rfl) .nil)) ?_
      rw [joinT_b0 (by rw [sy_plain]; omega)]
      exact ⟨rfl, st.low⟩
     ·first | refine XR_a (op_field0 rfl rfl) rfl rfl ?_ | refine XR_a (op_fieldn rfl rfl) rfl rfl ?_
      refine XR_a (op_ld (st.cell 1 (i := 1) rfl rfl) rfl rfl rfl) rfl rfl ?_
      refine XR_a (op_neq rfl rfl) rfl rfl ?_
      refine XR_a (op_pick_f rfl rfl) rfl rfl (XR_a (op_move rfl) rfl rfl ?_)
      refine XR_if 43 rfl (fun h => ?_) (fun h => ?_)
      ·refine XR_no rfl rfl (XR_no rfl rfl (XR_no rfl rfl (XR_a (op_pick_t rfl rfl) rfl rfl (XR_nil (X_then rfl ?_)))))
       refine X_seq (X_reg ?_)
       refine XR_a (op_build (ps := []) (cs := (tokV Tok.nil).toArray) rfl rfl) rfl rfl ?_
       refine XR_wn (opl_store_whole (us := tokV Tok.nil) st 0 rfl rfl rfl rfl rfl (tokV_one _) rfl) rfl rfl fun _ hp st => ?_
       simp only [List.set_cons_zero, List.set_cons_succ] at st
       refine XR_a (op_assign rfl) rfl rfl (XR_nil ?_)
       refine X_ret (.cons (RV_agg (vs := tokV Tok.nil) rfl rfl rfl (st.cells 0 rfl)) (.cons (.tmp rfl) .nil)) ?_
       rw [joinT_b0 (by rw [sy_plain]; omega)]
       exact ⟨rfl, st.low⟩
      ·first | refine XR_a (op_field0 rfl rfl) rfl rfl ?_ | refine XR_a (op_fieldn rfl rfl) rfl rfl ?_
       refine XR_a (op_ld (st.cell 1 (i := 2) rfl rfl) rfl rfl rfl) rfl rfl ?_
       refine XR_a (op_neq rfl rfl) rfl rfl ?_
       refine XR_a (op_pick_f rfl rfl) rfl rfl (XR_nil ?_)
       refine X_if rfl (fun h => ?_) (fun h => ?_)
       ·refine X_seq (X_reg ?_)
        refine XR_a (op_build (ps := []) (cs := (tokV Tok.nil).toArray) rfl rfl) rfl rfl ?_
        refine XR_wn (opl_store_whole (us := tokV Tok.nil) st 0 rfl rfl rfl rfl rfl (tokV_one _) rfl) rfl rfl fun _ hp st => ?_
        simp only [List.set_cons_zero, List.set_cons_succ] at st
        refine XR_a (op_assign rfl) rfl rfl (XR_nil ?_)
        refine X_ret (.cons (RV_agg (vs := tokV Tok.nil) rfl rfl rfl (st.cells 0 rfl)) (.cons (.tmp rfl) .nil)) ?_
        rw [joinT_b0 (by rw [sy_plain]; omega)]
        exact ⟨rfl, st.low⟩
       ·refine X_skip (X_seq (X_reg ?_))
        first | refine XR_a (op_field0 rfl rfl) rfl rfl ?_ | refine XR_a (op_fieldn rfl rfl) rfl rfl ?_
        refine XR_a (op_ld (st.cell 2 (i := 0) rfl rfl) rfl rfl rfl) rfl rfl ?_
        refine XR_a (op_convI rfl rfl (by simp only [inK]; omega)) rfl rfl ?_
        refine XR_a (op_build (ps := [(0, .int .u8 a.num)]) (cs := (tokV ⟨a.num, 0, 0⟩).toArray) rfl rfl) rfl rfl ?_
        refine XR_wn (opl_store_whole (us := tokV ⟨a.num, 0, 0⟩) st 0 rfl rfl rfl rfl rfl (tokV_one _) rfl) rfl rfl fun _ hp st => ?_
        simp only [List.set_cons_zero, List.set_cons_succ] at st
        refine XR_a (op_assign rfl) rfl rfl (XR_nil ?_)
        refine X_ret (.cons (RV_agg (vs := tokV ⟨a.num, 0, 0⟩) rfl rfl rfl (st.cells 0 rfl)) (.cons (.tmp rfl) .nil)) ?_
        rw [joinT_b (by omega) (by rw [sy_plain]; omega)]
        exact ⟨rfl, st.low⟩
theorem join_ref {a b : Kls} {m : Bool} (ha : 0 ≤ a.ext ∧ a.ext < 4294967296) (hb : 0 ≤ b.ext ∧ b.ext < 4294967296) (h0 : Heap) : Ret Tryz.prog 39 [.agg #[.int .i64 a.num, .int .i64 a.bits, .int .u32 a.ext], .agg #[.int .i64 b.num, .int .i64 b.bits, .int .u32 b.ext], .bool m] h0 fun r h' => r = retVal [.agg (tokV (joinT ⟨a, b, m⟩).1).toArray, .bool (joinT ⟨a, b, m⟩).2] ∧ Ext h0 h' := by
 cases m with
 | true => exact join_t ha hb h0
 | false => exact join_f h0
end Go.Bn
end

section
set_option linter.unusedVariables false
set_option linter.unusedSimpArgs false
set_option maxHeartbeats 4000000
set_option maxRecDepth 20000
namespace Go.Bn
open Go Proofs
theorem ofNat_bit (b : Bool) : (UInt8.ofNat b.toNat).toNat = b.toNat := by cases b <;> rfl
theorem number_ref {m c a : Nat} {k : Int} {A : Option Addr} {bs : List Bool} {h0 : Heap} (hr : Rd h0 A ((b01 bs).map byteV)) (hl : bs.length = m) (hm : m ≤ 1099511627776) (ha : a ≤ 1099511627776) :
  Ret Tryz.prog 55 [.slice A m c, .int .i64 (a : Int), .int .i64 k] h0 fun v h' => v = .int .u32 (numB bs a (wd 32 k) : Nat) ∧ h0 = h' := by
 have hwd := wd_le 32 k
 refine ret_of_X Tryz.func55 rfl rfl fun w0 hw0 => ?_
 simp only [argE, Nat.zero_add, Nat.reduceAdd]
 refine X_seq (X_reg (XR_a (op_assign rfl) rfl rfl (XR_nil (X_seq (X_reg ?_)))))
 refine XR_a (op_assign rfl) rfl rfl (XR_nil (X_seq (X_reg (XR_a (op_assign rfl) rfl rfl (XR_nil ?_)))))
 refine X_seq (X_seq (X_reg (XR_a (op_assign rfl) rfl rfl (XR_nil (X_block ?_)))))
 refine X_loop (fun s => 32 - s) (fun s => [(0, .slice A m c), (1, .int .i64 ((a + s : Nat) : Int)), (2, .int .i64 k), (7, .int .u32 (numB bs a s : Nat)), (8, .int .u32 ((2 ^ s % 4294967296 : Nat) : Int)), (9, .int .i64 (s : Int))])
  (fun (s : Nat) hp => h0 = hp ∧ s ≤ wd 32 k)
  0 (.cons rfl (.cons rfl (.cons rfl (.cons (by simp [numB_zero]; rfl) (.cons rfl (.cons rfl (.nil _))))))) ⟨rfl, by omega⟩ ?_
 rintro i hp ⟨rfl, hi⟩
 refine X_seq (X_seq (X_reg (XR_a (op_move rfl) rfl rfl (XR_a (op_move rfl) rfl rfl ?_))))
 refine XR_wa (opl_call (bwidth_ref k _) rfl (by kernel_rfl)) rfl rfl rfl ?_
 rintro _ _ ⟨rfl, rfl⟩
 refine XR_a (op_lss rfl rfl) rfl rfl ?_
 refine XR_nil ?_
 refine X_if rfl (fun h => ?_) (fun h => ?_)
 ·have hn1 := numB_lt bs a i
  have hn2 := numB_lt bs a (i + 1)
  have hp31 : 2 ^ i ≤ 2147483648 := Nat.le_trans (Nat.pow_le_pow_right (by omega) (show i ≤ 31 by omega)) (by decide)
  have hp2 : 2 ^ (i + 1) = 2 ^ i * 2 := Nat.pow_succ _ _
  have hmod : 2 ^ i % 4294967296 = 2 ^ i := Nat.mod_eq_of_lt (by omega)
  rw [hmod]
  have hout := numB_succ_out bs a i
  have hin := numB_succ bs a i
  refine X_skip (X_seq (X_block (X_seq (X_seq (X_reg ?_)))))
  refine XR_a (op_move rfl) rfl rfl (XR_a (op_move rfl) rfl rfl ?_)
  refine XR_a (op_len rfl rfl rfl) rfl rfl ?_
  refine XR_a (op_lss rfl rfl) rfl rfl ?_
  refine XR_nil ?_
  refine X_if rfl (fun h => ?_) (fun h => ?_)
  ·have hlt : a + i < bs.length := by omega
   obtain ⟨b, o, rfl, hc⟩ := hr.at_ (by rw [List.length_map, b01_length]; omega)
   have hcell := hc (a + i) (byteV (UInt8.ofNat bs[a + i].toNat)) (by rw [List.getElem?_map, b01_get bs _ hlt]; rfl)
   replace hin := hin hlt
   have hob := ofNat_bit bs[a + i]
   have hb1 := Bool.toNat_le bs[a + i]
   generalize bs[a + i] = y at *
   have hprod : 2 ^ i * y.toNat ≤ 2 ^ i * 1 := Nat.mul_le_mul_left _ hb1
   refine X_reg (XR_a (op_move rfl) rfl rfl (XR_a (op_move rfl) rfl rfl (XR_a (op_move rfl) rfl rfl (XR_a (op_move rfl) rfl rfl ?_))))
   first | refine XR_a (op_index1 rfl rfl rfl (by omega)) rfl rfl ?_ | refine XR_a (op_index rfl rfl rfl (by omega)) rfl rfl ?_
   refine XR_a (op_ld (hcell) rfl rfl rfl) rfl rfl ?_
   refine XR_a (op_convI rfl rfl (by simp only [inK]; omega)) rfl rfl ?_
   rw [hob]
   first | refine XR_a (op_mulN rfl rfl (by simp only [inK]; omega)) rfl rfl ?_ | refine XR_a (op_mulI rfl rfl (by simp only [inK]; omega)) rfl rfl ?_ | refine XR_a (op_mul rfl rfl) rfl rfl ?_
   refine XR_a (op_addN rfl rfl (by simp only [inK]; omega)) rfl rfl ?_
   rw [← hin]
   refine XR_a (op_assign rfl) rfl rfl (XR_nil (X_seq (X_reg (XR_a (op_move rfl) rfl rfl ?_))))
   refine XR_a (op_mul rfl rfl) rfl rfl ?_
   refine XR_as (.int .u32 ((2 ^ (i + 1) % 4294967296 : Nat) : Int)) (by
    have e : (((2 ^ i : Nat) : Int) * 2) = ((2 ^ (i + 1) : Nat) : Int) := by rw [hp2, Int.natCast_mul]; rfl
    rw [e, wrap_u32]) ?_
   refine XR_a (op_assign rfl) rfl rfl (XR_nil (X_reg (XR_a (op_move rfl) rfl rfl ?_)))
   first | refine XR_a (op_addN (n := 1) rfl rfl (by simp only [inK]; omega)) rfl rfl ?_ | refine XR_a (op_addI rfl rfl (by simp only [inK]; omega)) rfl rfl ?_ | refine XR_a (op_add rfl rfl) rfl rfl ?_
   refine XR_a (op_assign rfl) rfl rfl (XR_nil (X_blk (X_reg (XR_a (op_move rfl) rfl rfl ?_))))
   first | refine XR_a (op_addN (n := 1) rfl rfl (by simp only [inK]; omega)) rfl rfl ?_ | refine XR_a (op_addI rfl rfl (by simp only [inK]; omega)) rfl rfl ?_ | refine XR_a (op_add rfl rfl) rfl rfl ?_
   refine XR_a (op_assign rfl) rfl rfl (XR_nil ?_)
   exact X_again (i + 1) (.cons rfl (.cons rfl (.cons rfl (.cons rfl (.cons rfl (.cons rfl (.nil _))))))) ⟨rfl, by omega⟩ (by omega)
  ·refine X_skip (X_seq (X_reg (XR_a (op_move rfl) rfl rfl ?_)))
   refine XR_a (op_mul rfl rfl) rfl rfl ?_
   refine XR_as (.int .u32 ((2 ^ (i + 1) % 4294967296 : Nat) : Int)) (by
    have e : (((2 ^ i : Nat) : Int) * 2) = ((2 ^ (i + 1) : Nat) : Int) := by rw [hp2, Int.natCast_mul]; rfl
    rw [e, wrap_u32]) ?_
   refine XR_a (op_assign rfl) rfl rfl (XR_nil (X_reg (XR_a (op_move rfl) rfl rfl ?_)))
   first | refine XR_a (op_addN (n := 1) rfl rfl (by simp only [inK]; omega)) rfl rfl ?_ | refine XR_a (op_addI rfl rfl (by simp only [inK]; omega)) rfl rfl ?_ | refine XR_a (op_add rfl rfl) rfl rfl ?_
   refine XR_a (op_assign rfl) rfl rfl (XR_nil (X_blk (X_reg (XR_a (op_move rfl) rfl rfl ?_))))
   first | refine XR_a (op_addN (n := 1) rfl rfl (by simp only [inK]; omega)) rfl rfl ?_ | refine XR_a (op_addI rfl rfl (by simp only [inK]; omega)) rfl rfl ?_ | refine XR_a (op_add rfl rfl) rfl rfl ?_
   refine XR_a (op_assign rfl) rfl rfl (XR_nil ?_)
   rw [← hout (by omega)]
   exact X_again (i + 1) (.cons rfl (.cons rfl (.cons rfl (.cons rfl (.cons rfl (.cons rfl (.nil _))))))) ⟨rfl, by omega⟩ (by omega)
 ·refine X_exit rfl (X_seq (X_reg (XR_a (op_move rfl) rfl rfl (XR_a (op_assign rfl) rfl rfl (XR_nil ?_)))))
  refine X_ret (.cons (.tmp rfl) .nil) ?_
  obtain rfl : i = wd 32 k := by omega
  exact ⟨rfl, rfl⟩
theorem unpack_ref {m c : Nat} {A : Option Addr} {l : List UInt8} {h0 : Heap} (hr : Rd h0 A (l.map byteV)) (hl : l.length = m) (hm : m ≤ 137438953472) :
  Ret Tryz.prog 13 [.slice A m c] h0 fun v h' => St h0.size h0 h' [row 5 1 v ((b01 (bitsB l)).map byteV)] := by
 refine ret_of_X Tryz.func13 rfl rfl fun w0 hw0 => ?_
 simp only [argE, Nat.zero_add, Nat.reduceAdd]
 refine X_seq (X_reg (XR_a (op_assign rfl) rfl rfl (XR_nil (X_seq (X_reg ?_)))))
 refine XR_a (op_assign rfl) rfl rfl (XR_nil (X_seq (X_seq (X_reg (XR_a (op_assign rfl) rfl rfl ?_)))))
 refine XR_nil (X_block ?_)
 have st := (St.start h0).nilrow 5 1
 refine X_loop (fun s => m - s.1) (fun s => [(0, .slice A m c), (3, s.2), (4, .int .i64 (s.1 : Int))])
  (fun (s : Nat × Value) hp => St h0.size h0 hp [row 5 1 s.2 ((b01 (bitsB (l.take s.1))).map byteV)] ∧ s.1 ≤ m)
  (0, _) (.cons rfl (.cons rfl (.cons rfl (.nil _)))) ⟨by simpa [b01, bitsB] using st, by simp⟩ ?_
 clear st
 rintro ⟨i, v⟩ hp ⟨st, hi⟩
 simp only at st hi ⊢
 refine X_seq (X_seq (X_reg (XR_a (op_move rfl) rfl rfl (XR_a (op_move rfl) rfl rfl ?_))))
 refine XR_a (op_len rfl rfl rfl) rfl rfl ?_
 refine XR_a (op_lss rfl rfl) rfl rfl ?_
 refine XR_nil ?_
 refine X_if rfl (fun h => ?_) (fun h => ?_)
 ·have hlt : i < l.length := by omega
  obtain ⟨b, o, rfl, hc⟩ := (hr.ext st.low).at_ (by rw [List.length_map]; omega)
  have hcell := hc i (byteV l[i]) (by simp [hlt])
  have hsn : b01 (bitsB (l.take (i + 1))) = b01 (bitsB (l.take i)) ++ b01 (bitsN (wd 32 8) l[i].toNat) := by
   rw [List.take_succ_eq_append_getElem hlt, bitsB_append, b01_append]
   simp [bitsB]; rfl
  have hb := (l[i]).toNat_lt
  have hlb : (bitsB (l.take i)).length = 8 * i := by rw [bitsB_length, List.length_take]; omega
  have h8 : wd 32 8 = 8 := rfl
  refine X_skip (X_seq (X_block (X_reg (XR_a (op_move rfl) rfl rfl (XR_a (op_move rfl) rfl rfl ?_)))))
  refine XR_a (op_move rfl) rfl rfl ?_
  first | refine XR_a (op_index1 rfl rfl rfl (by omega)) rfl rfl ?_ | refine XR_a (op_index rfl rfl rfl (by omega)) rfl rfl ?_
  refine XR_a (op_ld (hcell) rfl rfl rfl) rfl rfl ?_
  first | refine XR_a (op_convI rfl rfl (by simp only [inK]; omega)) rfl rfl ?_ | refine XR_a (op_convU rfl rfl rfl) rfl rfl ?_ | refine XR_a (op_conv rfl rfl) rfl rfl ?_
  refine XR_wa (opl_call (brow_ref (n := l[i].toNat) (k := 8) (by omega)) rfl (by kernel_rfl)) rfl rfl rfl ?_
  rintro v2 hp st2
  obtain ⟨A2, n2, c2, rfl, hlen2, _, _, hrd2⟩ := st2.row 0 rfl
  replace st := st.ext st2.low
  refine XR_wa (opl_append st 0 rfl (hrd2) (hlen2) (one_bytes _) (by simp [b01_length, bitsN_length, hlb, h8]; omega) rfl rfl rfl rfl rfl rfl rfl) rfl rfl rfl fun v hp st => ?_
  simp only [List.set_cons_zero, List.set_cons_succ] at st
  rw [← List.map_append, ← hsn] at st
  refine XR_a (op_assign rfl) rfl rfl (XR_nil (X_blk (X_reg (XR_a (op_move rfl) rfl rfl ?_))))
  first | refine XR_a (op_addN (n := 1) rfl rfl (by simp only [inK]; omega)) rfl rfl ?_ | refine XR_a (op_addI rfl rfl (by simp only [inK]; omega)) rfl rfl ?_ | refine XR_a (op_add rfl rfl) rfl rfl ?_
  refine XR_a (op_assign rfl) rfl rfl (XR_nil ?_)
  exact X_again (i + 1, v) (.cons rfl (.cons rfl (.cons rfl (.nil _)))) ⟨st, by simp only; omega⟩ (by simp only; omega)
 ·refine X_exit rfl (X_seq (X_reg (XR_a (op_move rfl) rfl rfl (XR_a (op_assign rfl) rfl rfl (XR_nil ?_)))))
  refine X_ret (.cons (.tmp rfl) .nil) ?_
  rw [List.take_of_length_le (by omega)] at st
  exact st
end Go.Bn
end
