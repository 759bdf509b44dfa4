/- The contracts of package desc's functions, and of its reference's. -/
import Derived.Test.YtigbhndidohgbaaCrc
import Derived.Test.YtigbhndidohgbaaFieldR
import Derived.Test.YtigbhndidohgbaaPDesc
import Derived.Test.YtigbhndidohgbaaPieces
import Derived.Test.YtigbhndidohgbaaLaw21
set_option linter.unusedVariables false
set_option linter.unusedSimpArgs false
set_option maxHeartbeats 4000000
set_option maxRecDepth 20000
namespace Go.Bn
open Go Proofs

@[reducible] def dscC (d : Dsc) : List Value := [.int .i64 d.size, .int .i64 d.area, .int .u32 d.sum]
theorem dscC_one (d : Dsc) : ∀ u ∈ dscC d, Value.one u = true := by
  intro u hu; simp [dscC] at hu; rcases hu with rfl | rfl | rfl <;> rfl

theorem eq_desc (a b c a' b' c' : Int) (w : World) : (binOp .eql 52 (.agg #[.int .i64 a, .int .i64 b, .int .u32 c]) (.agg #[.int .i64 a', .int .i64 b', .int .u32 c'])).run Try.prog w = .ok (.bool (decide (Dsc.mk a b c = Dsc.mk a' b' c'))) w := by
  have hS : Try.prog.underlying 52 = some (.struct (Try.prog.fieldsOf 52)) := by kernel_rfl
  have hp : Try.prog.stoodInHeld 52 = false := by kernel_rfl
  have u3 := Try.underlying3
  have ub := Try.underlying22
  have a3 : ∀ w, (isAgg 3).run Try.prog w = .ok false w := run_isAgg_single rfl
  have ab : ∀ w, (isAgg 22).run Try.prog w = .ok false w := run_isAgg_single rfl
  have e3 : ∀ (x y : Int) (w : World), (Op.equalIn 9999 3 (.int .i64 x) (.int .i64 y)).run Try.prog w = .ok (x == y) w := fun x y w => run_equalIn_int w 9998 _ _ _ _ _ u3
  have eb : ∀ (x y : Int) (w : World), (Op.equalIn 9999 22 (.int .u32 x) (.int .u32 y)).run Try.prog w = .ok (x == y) w := fun x y w => run_equalIn_int w 9998 _ _ _ _ _ ub
  rw [run_eql_struct, show (10000 : Nat) = 9999 + 1 from rfl, run_equalIn_agg w 9999 52 _ _ hS hp]
  simp only [Program.fieldsOf, Try.underlying52]
  by_cases h1 : a = a' <;> by_cases h2 : b = b' <;> by_cases h3 : c = c' <;> simp [Op.eqFields, part, a3, ab, e3, eb, h1, h2, h3]

/-- Where a reader stands behind readings that would end at e: there, or it is spoilt. -/
def rdAt (e m a : Nat) (bad : Bool) : Prop := bad = false ∧ a = e ∨ bad = true ∧ m < e
/-- What a number's reading leaves, whether or not there is one. -/
theorem fnum_any (e : Nat) {B p m c a : Nat} {bad : Bool} {A : Option Addr} {l : List UInt8} {F : List Res} {h0 : Heap} (st : St B h0 h0 (fdG p A m c a bad :: F)) (hr : Rd h0 A (l.map byteV)) (hl : l.length = m) (hm : m ≤ 1099511627776) (ha : a ≤ m) (hb : rdAt e m a bad) :
    Ret Try.prog 69 [.pointer (some ⟨p, 0, none⟩), .int .i64 4] h0 fun v h' => ∃ (n a' : Nat) (bad' : Bool), v = .int .u32 (n : Int) ∧ St B h0 h' (fdG p A m c a' bad' :: F) ∧ n < 4294967296 ∧ a' ≤ m ∧ rdAt (e + 4) m a' bad' ∧ (bad' = false → n = leV ((l.drop e).take 4) ∧ bad = false) := by
  rcases hb with ⟨rfl, rfl⟩ | ⟨rfl, hb⟩
  · by_cases h : a + 4 ≤ m
    · refine (fnum_at (a + 4) (n := leV ((l.drop a).take 4)) st hr hl hm ha (getF_at (by rw [hl]; exact h)) rfl).mono ?_
      rintro v h' ⟨rfl, st2⟩
      exact ⟨_, _, _, rfl, st2, Nat.lt_of_lt_of_le (leV_lt _) (Nat.le_trans (Nat.pow_le_pow_right (by omega) (show _ ≤ 4 by rw [List.length_take]; omega)) (by decide)), h, .inl ⟨rfl, rfl⟩, fun _ => ⟨rfl, rfl⟩⟩
    · refine (fnum_fail st hr hl hm ha (getF_short (by rw [hl]; show m < a + 4; omega))).mono ?_
      rintro v h' ⟨rfl, st2⟩
      exact ⟨0, a, true, rfl, st2, by omega, ha, .inr ⟨rfl, by omega⟩, fun h => by cases h⟩
  · refine (fnum_bad (st.cell 0 rfl rfl)).mono ?_
    rintro v h' ⟨rfl, rfl⟩
    exact ⟨0, a, true, rfl, st, by omega, ha, .inr ⟨rfl, by omega⟩, fun h => by cases h⟩
/-- What the reading of the first bytes leaves. -/
theorem fbytes_any {B p m c : Nat} {A : Option Addr} {l : List UInt8} {F : List Res} {h0 : Heap} (n : Nat) (st : St B h0 h0 (fdG p A m c 0 false :: F)) (hr : Rd h0 A (l.map byteV)) (hl : l.length = m) (hm : m ≤ 1099511627776) (hmc : m ≤ c) :
    Ret Try.prog 68 [.pointer (some ⟨p, 0, none⟩), .int .i64 (n : Int)] h0 fun v h' => ∃ (w : List UInt8) (a' : Nat) (bad' : Bool), St B h0 h' (fdG p A m c a' bad' :: row 5 1 v (w.map byteV) :: F) ∧ a' ≤ m ∧ rdAt n m a' bad' ∧ (bad' = false → w = l.take n) := by
  by_cases h : n ≤ m
  · refine (fbytes_ok (n := n) st hr hl hm hmc (by omega)).mono ?_
    rintro v h' st2
    rw [List.drop_zero, Nat.zero_add] at st2
    exact ⟨_, _, _, st2, h, .inl ⟨rfl, rfl⟩, fun _ => rfl⟩
  · refine (fbytes_long (n := n) st hm (by omega) (by omega)).mono ?_
    rintro v h' ⟨rfl, st2⟩
    exact ⟨[], 0, true, (st2.nilrow 5 1).perm (List.Perm.swap _ _ _), by omega, .inr ⟨rfl, by omega⟩, fun h => by cases h⟩
/-- A number that is there, or that isn't. -/
theorem fget_at {n c v : Nat} {at_ k : Int} {A : Option Addr} {l : List UInt8} {h0 : Heap} (hr : Rd h0 A (l.map byteV)) (hl : l.length = n) (hn : n ≤ 140737488355328) (ha : inK .i64 at_) (hg : getF l at_ k = some v) :
    Ret Try.prog 74 [.slice A n c, .int .i64 at_, .int .i64 k] h0 fun r h' => r = retVal [.int .u32 (v : Int), .bool true] ∧ h0 = h' := by
  have h := fget_spec (k := k) (c := c) hr hl hn ha
  rw [hg] at h; exact h
theorem fget_no {n c : Nat} {at_ k : Int} {A : Option Addr} {l : List UInt8} {h0 : Heap} (hr : Rd h0 A (l.map byteV)) (hl : l.length = n) (hn : n ≤ 140737488355328) (ha : inK .i64 at_) (hg : getF l at_ k = none) :
    Ret Try.prog 74 [.slice A n c, .int .i64 at_, .int .i64 k] h0 fun r h' => r = retVal [.int .u32 0, .bool false] ∧ h0 = h' := by
  have h := fget_spec (k := k) (c := c) hr hl hn ha
  rw [hg] at h; exact h

theorem dright_spec (a b c : Int) (h0 : Heap) : Ret Try.prog 36 [.agg #[.int .i64 a, .int .i64 b, .int .u32 c]] h0 fun v h' => v = .bool (decide (Dsc.mk a b c).right) ∧ Ext h0 h' := by
  refine ret_of_X Try.func36 rfl rfl fun w0 hw0 => ?_
  simp only [argE, Nat.zero_add, Nat.reduceAdd]
  have st := St.start h0
  simp only [Dsc.right]
  refine X_seq ?_
  refine X_reg ?_
  refine XR_wa (opl_bx rfl rfl) rfl rfl rfl ?_
  rintro _ hp ⟨p, rfl, hnew⟩
  have st := st.new hnew
  refine XR_a (op_assign rfl) rfl rfl ?_
  refine XR_nil ?_
  refine X_seq ?_
  refine X_reg ?_
  first | refine XR_a (op_field0 rfl rfl) rfl rfl ?_ | refine XR_a (op_fieldn rfl rfl) rfl rfl ?_
  refine XR_a (op_ld (by first | assumption | exact st.cell 0 rfl rfl | exact st.cell 1 rfl rfl | exact st.cell 2 rfl rfl | exact st.cell 3 rfl rfl) rfl rfl rfl) rfl rfl ?_
  refine XR_a (op_geq rfl rfl) rfl rfl ?_
  refine XR_a (op_move rfl) rfl rfl ?_
  refine XR_if 6 rfl (fun h => ?_) (fun h => ?_)
  · first | refine XR_a (op_field0 rfl rfl) rfl rfl ?_ | refine XR_a (op_fieldn rfl rfl) rfl rfl ?_
    refine XR_a (op_ld (by first | assumption | exact st.cell 0 rfl rfl | exact st.cell 1 rfl rfl | exact st.cell 2 rfl rfl | exact st.cell 3 rfl rfl) rfl rfl rfl) rfl rfl ?_
    refine XR_a (op_leq rfl rfl) rfl rfl ?_
    refine XR_a (op_pick_t rfl rfl) rfl rfl ?_
    refine XR_a (op_move rfl) rfl rfl ?_
    refine XR_if 11 rfl (fun h => ?_) (fun h => ?_)
    · first | refine XR_a (op_field0 rfl rfl) rfl rfl ?_ | refine XR_a (op_fieldn rfl rfl) rfl rfl ?_
      refine XR_a (op_ld (by first | assumption | exact st.cell 0 rfl rfl | exact st.cell 1 rfl rfl | exact st.cell 2 rfl rfl | exact st.cell 3 rfl rfl) rfl rfl rfl) rfl rfl ?_
      refine XR_a (op_geq rfl rfl) rfl rfl ?_
      refine XR_a (op_pick_t rfl rfl) rfl rfl ?_
      refine XR_a (op_move rfl) rfl rfl ?_
      refine XR_if 16 rfl (fun h => ?_) (fun h => ?_)
      · first | refine XR_a (op_field0 rfl rfl) rfl rfl ?_ | refine XR_a (op_fieldn rfl rfl) rfl rfl ?_
        refine XR_a (op_ld (by first | assumption | exact st.cell 0 rfl rfl | exact st.cell 1 rfl rfl | exact st.cell 2 rfl rfl | exact st.cell 3 rfl rfl) rfl rfl rfl) rfl rfl ?_
        refine XR_a (op_leq rfl rfl) rfl rfl ?_
        refine XR_a (op_pick_t rfl rfl) rfl rfl ?_
        refine XR_a (op_assign rfl) rfl rfl ?_
        refine XR_nil ?_
        refine X_ret (.cons (.tmp rfl) .nil) ?_
        first
          | exact ⟨congrArg Value.bool (decide_eq_false (by omega)).symm, st.low⟩
          | exact ⟨congrArg Value.bool (decide_eq_decide.2 ⟨fun hh => by omega, fun hh => by omega⟩), st.low⟩
      · refine XR_no rfl rfl ?_
        refine XR_no rfl rfl ?_
        refine XR_no rfl rfl ?_
        refine XR_a (op_pick_f rfl rfl) rfl rfl ?_
        refine XR_a (op_assign rfl) rfl rfl ?_
        refine XR_nil ?_
        refine X_ret (.cons (.tmp rfl) .nil) ?_
        first
          | exact ⟨congrArg Value.bool (decide_eq_false (by omega)).symm, st.low⟩
          | exact ⟨congrArg Value.bool (decide_eq_decide.2 ⟨fun hh => by omega, fun hh => by omega⟩), st.low⟩
    · refine XR_no rfl rfl ?_
      refine XR_no rfl rfl ?_
      refine XR_no rfl rfl ?_
      refine XR_a (op_pick_f rfl rfl) rfl rfl ?_
      refine XR_a (op_move rfl) rfl rfl ?_
      refine XR_no rfl rfl ?_
      refine XR_no rfl rfl ?_
      refine XR_no rfl rfl ?_
      refine XR_a (op_pick_f rfl rfl) rfl rfl ?_
      refine XR_a (op_assign rfl) rfl rfl ?_
      refine XR_nil ?_
      refine X_ret (.cons (.tmp rfl) .nil) ?_
      first
        | exact ⟨congrArg Value.bool (decide_eq_false (by omega)).symm, st.low⟩
        | exact ⟨congrArg Value.bool (decide_eq_decide.2 ⟨fun hh => by omega, fun hh => by omega⟩), st.low⟩
  · refine XR_no rfl rfl ?_
    refine XR_no rfl rfl ?_
    refine XR_no rfl rfl ?_
    refine XR_a (op_pick_f rfl rfl) rfl rfl ?_
    refine XR_a (op_move rfl) rfl rfl ?_
    refine XR_no rfl rfl ?_
    refine XR_no rfl rfl ?_
    refine XR_no rfl rfl ?_
    refine XR_a (op_pick_f rfl rfl) rfl rfl ?_
    refine XR_a (op_move rfl) rfl rfl ?_
    refine XR_no rfl rfl ?_
    refine XR_no rfl rfl ?_
    refine XR_no rfl rfl ?_
    refine XR_a (op_pick_f rfl rfl) rfl rfl ?_
    refine XR_a (op_assign rfl) rfl rfl ?_
    refine XR_nil ?_
    refine X_ret (.cons (.tmp rfl) .nil) ?_
    first
      | exact ⟨congrArg Value.bool (decide_eq_false (by omega)).symm, st.low⟩
      | exact ⟨congrArg Value.bool (decide_eq_decide.2 ⟨fun hh => by omega, fun hh => by omega⟩), st.low⟩

theorem dright_ref (a b c : Int) (h0 : Heap) : Ret Try.prog 35 [.agg #[.int .i64 a, .int .i64 b, .int .u32 c]] h0 fun v h' => v = .bool (decide (Dsc.mk a b c).right) ∧ Ext h0 h' := by
  refine ret_of_X Try.func35 rfl rfl fun w0 hw0 => ?_
  simp only [argE, Nat.zero_add, Nat.reduceAdd]
  have st := St.start h0
  simp only [Dsc.right]
  refine X_seq ?_
  refine X_reg ?_
  refine XR_wa (opl_bx rfl rfl) rfl rfl rfl ?_
  rintro _ hp ⟨p, rfl, hnew⟩
  have st := st.new hnew
  refine XR_a (op_assign rfl) rfl rfl ?_
  refine XR_nil ?_
  refine X_seq ?_
  refine X_reg ?_
  first | refine XR_a (op_field0 rfl rfl) rfl rfl ?_ | refine XR_a (op_fieldn rfl rfl) rfl rfl ?_
  refine XR_a (op_ld (by first | assumption | exact st.cell 0 rfl rfl | exact st.cell 1 rfl rfl | exact st.cell 2 rfl rfl | exact st.cell 3 rfl rfl) rfl rfl rfl) rfl rfl ?_
  refine XR_a (op_geq rfl rfl) rfl rfl ?_
  refine XR_a (op_move rfl) rfl rfl ?_
  refine XR_if 6 rfl (fun h => ?_) (fun h => ?_)
  · first | refine XR_a (op_field0 rfl rfl) rfl rfl ?_ | refine XR_a (op_fieldn rfl rfl) rfl rfl ?_
    refine XR_a (op_ld (by first | assumption | exact st.cell 0 rfl rfl | exact st.cell 1 rfl rfl | exact st.cell 2 rfl rfl | exact st.cell 3 rfl rfl) rfl rfl rfl) rfl rfl ?_
    refine XR_a (op_leq rfl rfl) rfl rfl ?_
    refine XR_a (op_pick_t rfl rfl) rfl rfl ?_
    refine XR_a (op_move rfl) rfl rfl ?_
    refine XR_if 11 rfl (fun h => ?_) (fun h => ?_)
    · first | refine XR_a (op_field0 rfl rfl) rfl rfl ?_ | refine XR_a (op_fieldn rfl rfl) rfl rfl ?_
      refine XR_a (op_ld (by first | assumption | exact st.cell 0 rfl rfl | exact st.cell 1 rfl rfl | exact st.cell 2 rfl rfl | exact st.cell 3 rfl rfl) rfl rfl rfl) rfl rfl ?_
      refine XR_a (op_gtr rfl rfl) rfl rfl ?_
      refine XR_a (op_pick_t rfl rfl) rfl rfl ?_
      refine XR_a (op_move rfl) rfl rfl ?_
      refine XR_if 16 rfl (fun h => ?_) (fun h => ?_)
      · first | refine XR_a (op_field0 rfl rfl) rfl rfl ?_ | refine XR_a (op_fieldn rfl rfl) rfl rfl ?_
        refine XR_a (op_ld (by first | assumption | exact st.cell 0 rfl rfl | exact st.cell 1 rfl rfl | exact st.cell 2 rfl rfl | exact st.cell 3 rfl rfl) rfl rfl rfl) rfl rfl ?_
        refine XR_a (op_leq rfl rfl) rfl rfl ?_
        refine XR_a (op_pick_t rfl rfl) rfl rfl ?_
        refine XR_a (op_assign rfl) rfl rfl ?_
        refine XR_nil ?_
        refine X_ret (.cons (.tmp rfl) .nil) ?_
        first
          | exact ⟨congrArg Value.bool (decide_eq_false (by omega)).symm, st.low⟩
          | exact ⟨congrArg Value.bool (decide_eq_decide.2 ⟨fun hh => by omega, fun hh => by omega⟩), st.low⟩
      · refine XR_no rfl rfl ?_
        refine XR_no rfl rfl ?_
        refine XR_no rfl rfl ?_
        refine XR_a (op_pick_f rfl rfl) rfl rfl ?_
        refine XR_a (op_assign rfl) rfl rfl ?_
        refine XR_nil ?_
        refine X_ret (.cons (.tmp rfl) .nil) ?_
        first
          | exact ⟨congrArg Value.bool (decide_eq_false (by omega)).symm, st.low⟩
          | exact ⟨congrArg Value.bool (decide_eq_decide.2 ⟨fun hh => by omega, fun hh => by omega⟩), st.low⟩
    · refine XR_no rfl rfl ?_
      refine XR_no rfl rfl ?_
      refine XR_no rfl rfl ?_
      refine XR_a (op_pick_f rfl rfl) rfl rfl ?_
      refine XR_a (op_move rfl) rfl rfl ?_
      refine XR_no rfl rfl ?_
      refine XR_no rfl rfl ?_
      refine XR_no rfl rfl ?_
      refine XR_a (op_pick_f rfl rfl) rfl rfl ?_
      refine XR_a (op_assign rfl) rfl rfl ?_
      refine XR_nil ?_
      refine X_ret (.cons (.tmp rfl) .nil) ?_
      first
        | exact ⟨congrArg Value.bool (decide_eq_false (by omega)).symm, st.low⟩
        | exact ⟨congrArg Value.bool (decide_eq_decide.2 ⟨fun hh => by omega, fun hh => by omega⟩), st.low⟩
  · refine XR_no rfl rfl ?_
    refine XR_no rfl rfl ?_
    refine XR_no rfl rfl ?_
    refine XR_a (op_pick_f rfl rfl) rfl rfl ?_
    refine XR_a (op_move rfl) rfl rfl ?_
    refine XR_no rfl rfl ?_
    refine XR_no rfl rfl ?_
    refine XR_no rfl rfl ?_
    refine XR_a (op_pick_f rfl rfl) rfl rfl ?_
    refine XR_a (op_move rfl) rfl rfl ?_
    refine XR_no rfl rfl ?_
    refine XR_no rfl rfl ?_
    refine XR_no rfl rfl ?_
    refine XR_a (op_pick_f rfl rfl) rfl rfl ?_
    refine XR_a (op_assign rfl) rfl rfl ?_
    refine XR_nil ?_
    refine X_ret (.cons (.tmp rfl) .nil) ?_
    first
      | exact ⟨congrArg Value.bool (decide_eq_false (by omega)).symm, st.low⟩
      | exact ⟨congrArg Value.bool (decide_eq_decide.2 ⟨fun hh => by omega, fun hh => by omega⟩), st.low⟩

theorem dput_bad {a b c : Int} {v : Value} {h0 : Heap} (hs : ¬ (Dsc.mk a b c).right) : Ret Try.prog 34 [v, .agg #[.int .i64 a, .int .i64 b, .int .u32 c]] h0 fun v h' => v = retVal [.slice none 0 0, .int .i64 1] ∧ Ext h0 h' := by
  refine ret_of_X Try.func34 rfl rfl fun w0 hw0 => ?_
  simp only [argE, Nat.zero_add, Nat.reduceAdd]
  have st := St.start h0
  refine X_seq ?_
  refine X_reg ?_
  refine XR_wa (opl_bx rfl rfl) rfl rfl rfl ?_
  rintro _ hp ⟨p, rfl, hnew⟩
  have st := st.new hnew
  refine XR_a (op_assign rfl) rfl rfl ?_
  refine XR_a (op_assign rfl) rfl rfl ?_
  refine XR_nil ?_
  refine X_seq ?_
  refine X_seq ?_
  refine X_reg ?_
  refine XR_a (op_ldA (st.cells 0 rfl) rfl rfl rfl rfl) rfl rfl ?_
  refine XR_wa (opl_call (dright_spec _ _ _ _) rfl (by kernel_rfl)) rfl rfl rfl ?_
  rintro _ hp ⟨rfl, hx⟩
  replace st := st.ext hx
  rw [decide_eq_false hs]
  refine XR_a (op_not rfl) rfl rfl ?_
  refine XR_nil ?_
  refine X_then rfl ?_
  refine X_seq ?_
  refine X_reg ?_
  refine XR_a (op_assign rfl) rfl rfl ?_
  refine XR_a (op_assign rfl) rfl rfl ?_
  refine XR_nil ?_
  refine X_ret (.cons (.tmp rfl) (.cons (.tmp rfl) .nil)) ?_
  exact ⟨rfl, st.low⟩

theorem dput_ok {tp a b c : Nat} {h0 : Heap} (ht : Tab h0 tp) (hs : (Dsc.mk a b c).right) (hc : c < 4294967296) : Ret Try.prog 34 [.pointer (some ⟨tp, 0, none⟩), .agg #[.int .i64 (a : Int), .int .i64 (b : Int), .int .u32 (c : Int)]] h0 fun v h' =>
    ∃ v1, v = retVal [v1, .int .i64 0] ∧ St h0.size h0 h' [row 5 1 v1 ((Dsc.mk a b c).bytes.map byteV)] := by
  have hs' := hs
  simp only [Dsc.right] at hs'
  have ha : a < 4294967296 := by omega
  have hb : b < 4294967296 := by omega
  refine ret_of_X Try.func34 rfl rfl fun w0 hw0 => ?_
  simp only [argE, Nat.zero_add, Nat.reduceAdd]
  have st := St.start h0
  refine X_seq ?_
  refine X_reg ?_
  refine XR_wa (opl_bx rfl rfl) rfl rfl rfl ?_
  rintro _ hp ⟨p, rfl, hnew⟩
  have st := st.new hnew
  refine XR_a (op_assign rfl) rfl rfl ?_
  refine XR_a (op_assign rfl) rfl rfl ?_
  refine XR_nil ?_
  refine X_seq ?_
  refine X_seq ?_
  refine X_reg ?_
  refine XR_a (op_ldA (st.cells 0 rfl) rfl rfl rfl rfl) rfl rfl ?_
  refine XR_wa (opl_call (dright_spec _ _ _ _) rfl (by kernel_rfl)) rfl rfl rfl ?_
  rintro _ hp ⟨rfl, hx⟩
  replace st := st.ext hx
  rw [decide_eq_true hs]
  refine XR_a (op_not rfl) rfl rfl ?_
  refine XR_nil ?_
  refine X_else rfl ?_
  refine X_skip ?_
  refine X_seq ?_
  refine X_reg ?_
  refine XR_wa (opl_lits (([68, 69, 83, 67] : List UInt8).map byteV) rfl rfl rfl rfl (by kernel_rfl) rfl) rfl rfl rfl ?_
  rintro v hp hnew
  replace st := st.new hnew
  obtain ⟨A, n, k, rfl, hlen, _, _, hrd⟩ := st.row 0 rfl
  obtain ⟨gb, o, rfl, _⟩ := hrd.at_ (by decide)
  refine XR_wa (opl_bytesLit st 0 rfl rfl rfl) rfl rfl rfl ?_
  rintro _ hp ⟨rfl, st⟩
  refine XR_a (op_assign rfl) rfl rfl ?_
  refine XR_nil ?_
  refine X_seq ?_
  refine X_seq ?_
  refine X_reg ?_
  first | refine XR_a (op_field0 rfl rfl) rfl rfl ?_ | refine XR_a (op_fieldn rfl rfl) rfl rfl ?_
  refine XR_a (op_ld (by first | assumption | exact st.cell 0 rfl rfl | exact st.cell 1 rfl rfl | exact st.cell 2 rfl rfl | exact st.cell 3 rfl rfl) rfl rfl rfl) rfl rfl ?_
  first | refine XR_a (op_convI rfl rfl (by simp only [inK]; omega)) rfl rfl ?_ | refine XR_a (op_convU rfl rfl rfl) rfl rfl ?_ | refine XR_a (op_conv rfl rfl) rfl rfl ?_
  first | refine XR_a (op_field0 rfl rfl) rfl rfl ?_ | refine XR_a (op_fieldn rfl rfl) rfl rfl ?_
  refine XR_a (op_ld (by first | assumption | exact st.cell 0 rfl rfl | exact st.cell 1 rfl rfl | exact st.cell 2 rfl rfl | exact st.cell 3 rfl rfl) rfl rfl rfl) rfl rfl ?_
  first | refine XR_a (op_convI rfl rfl (by simp only [inK]; omega)) rfl rfl ?_ | refine XR_a (op_convU rfl rfl rfl) rfl rfl ?_ | refine XR_a (op_conv rfl rfl) rfl rfl ?_
  first | refine XR_a (op_field0 rfl rfl) rfl rfl ?_ | refine XR_a (op_fieldn rfl rfl) rfl rfl ?_
  refine XR_a (op_ld (by first | assumption | exact st.cell 0 rfl rfl | exact st.cell 1 rfl rfl | exact st.cell 2 rfl rfl | exact st.cell 3 rfl rfl) rfl rfl rfl) rfl rfl ?_
  refine XR_a (op_build (ps := [(0, .int .u32 (a : Int)), (1, .int .u32 (b : Int)), (2, .int .u32 (c : Int))]) (cs := #[.int .u32 (a : Int), .int .u32 (b : Int), .int .u32 (c : Int)]) rfl rfl) rfl rfl ?_
  refine XR_a (op_move rfl) rfl rfl ?_
  refine XR_nil ?_
  refine X_block ?_
  refine X_loop (fun s => 3 - s.1) (fun s => [(0, .pointer (some ⟨tp, 0, none⟩)), (6, s.2), (22, .agg #[.int .u32 (a : Int), .int .u32 (b : Int), .int .u32 (c : Int)]), (23, .int .i64 (s.1 : Int))])
    (fun (s : Nat × Value) hp => St h0.size h0 hp [row 5 1 s.2 ((([68, 69, 83, 67] : List UInt8) ++ (([a, b, c] : List Nat).take s.1).flatMap (leB 4)).map byteV), pt p 52 [.int .i64 (a : Int), .int .i64 (b : Int), .int .u32 (c : Int)]] ∧ s.1 ≤ 3)
    (0, _) (.cons rfl (.cons rfl (.cons rfl (.cons rfl (.nil _))))) ⟨st, by simp⟩ ?_
  clear st hrd hlen hnew hx
  rintro ⟨i, v⟩ hp ⟨st, hi⟩
  simp only at st hi ⊢
  refine X_seq ?_
  refine X_reg ?_
  refine XR_a (op_lss rfl rfl) rfl rfl ?_
  refine XR_nil ?_
  refine X_seq ?_
  refine X_if rfl (fun h => ?_) (fun h => ?_)
  · have h3 : i = 0 ∨ i = 1 ∨ i = 2 := by omega
    obtain ⟨q, hq, hql, hix, htk⟩ : ∃ q : Nat, q < 4294967296 ∧ (([68, 69, 83, 67] : List UInt8) ++ (([a, b, c] : List Nat).take i).flatMap (leB 4)).length ≤ 100 ∧ (#[.int .u32 (a : Int), .int .u32 (b : Int), .int .u32 (c : Int)] : Array Value)[i]? = some (.int .u32 (q : Int)) ∧ (([a, b, c] : List Nat).take (i + 1)).flatMap (leB 4) = (([a, b, c] : List Nat).take i).flatMap (leB 4) ++ leB 4 q := by
      rcases h3 with rfl | rfl | rfl
      · exact ⟨a, ha, by simp, rfl, by simp⟩
      · exact ⟨b, hb, by simp [leB_length], rfl, by simp⟩
      · exact ⟨c, hc, by simp [leB_length], rfl, by simp⟩
    refine X_skip ?_
    refine X_seq ?_
    refine X_block ?_
    refine X_seq ?_
    refine X_reg ?_
    refine XR_a (op_indexV rfl rfl rfl (by omega) hix) rfl rfl ?_
    refine XR_a (op_assign rfl) rfl rfl ?_
    refine XR_nil ?_
    refine X_reg ?_
    refine XR_a (op_move rfl) rfl rfl ?_
    refine XR_a (op_move rfl) rfl rfl ?_
    refine XR_wa (opl_call (fput_spec (n := q) st.here hq (by omega)) rfl (by kernel_rfl)) rfl rfl rfl ?_
    rintro v hp st2
    replace st := st.trans st2
    rw [show wid 4 = 4 by rfl, List.append_assoc, ← htk] at st
    refine XR_a (op_assign rfl) rfl rfl ?_
    refine XR_nil ?_
    refine X_blk ?_
    refine X_reg ?_
    first | refine XR_a (op_addN (n := 1) rfl rfl (by simp only [inK]; omega)) rfl rfl ?_ | refine XR_a (op_addI rfl rfl (by simp only [inK]; omega)) rfl rfl ?_ | refine XR_a (op_add rfl rfl) rfl rfl ?_
    refine XR_a (op_move rfl) rfl rfl ?_
    refine XR_nil ?_
    exact X_again (i + 1, v) (.cons rfl (.cons rfl (.cons rfl (.cons rfl (.nil _))))) ⟨st, by simp only; omega⟩ (by simp only; omega)
  · obtain rfl : i = 3 := by omega
    have e12 : (([a, b, c] : List Nat).take 3).flatMap (leB 4) = leB 4 a ++ leB 4 b ++ leB 4 c := by simp
    rw [e12, ← List.append_assoc, ← List.append_assoc] at st
    have e17 : (([68, 69, 83, 67] : List UInt8) ++ leB 4 a ++ leB 4 b ++ leB 4 c) = (Dsc.mk a b c).head := by simp [Dsc.head]
    rw [e17] at st
    generalize hgen : Dsc.mk (a : Int) b c = s at *
    have hh := s.head_length
    have hsl := sumN_lt s.head
    obtain ⟨A5, n5, c5, rfl, hlen5, _, _, hrd5⟩ := st.row 0 rfl
    refine X_exit rfl ?_
    refine X_seq ?_
    refine X_reg ?_
    refine XR_a (op_move rfl) rfl rfl ?_
    refine XR_a (op_move rfl) rfl rfl ?_
    refine XR_a (op_move rfl) rfl rfl ?_
    refine XR_wa (opl_call (sum_spec (ht.ext st.low) hrd5 (by simpa using hlen5) (by simp at hlen5; omega)) rfl (by kernel_rfl)) rfl rfl rfl ?_
    rintro _ _ ⟨rfl, rfl⟩
    refine XR_wa (opl_call (fput_spec (n := sumN s.head) st.here hsl (by omega)) rfl (by kernel_rfl)) rfl rfl rfl ?_
    rintro v hp st2
    replace st := st.trans st2
    rw [show wid 4 = 4 by rfl] at st
    refine XR_a (op_assign rfl) rfl rfl ?_
    refine XR_a (op_assign rfl) rfl rfl ?_
    refine XR_nil ?_
    refine X_ret (.cons (.tmp rfl) (.cons (.tmp rfl) .nil)) ?_
    exact ⟨_, rfl, st.only⟩

theorem leV4_lt' (l : List UInt8) (a : Nat) : leV ((l.drop a).take 4) < 4294967296 :=
  Nat.lt_of_lt_of_le (leV_lt _) (Nat.le_trans (Nat.pow_le_pow_right (by omega) (show _ ≤ 4 by rw [List.length_take]; omega)) (by decide))

theorem dtake_spec {tp m c : Nat} {at_ : Int} {A : Option Addr} {l : List UInt8} {h0 : Heap} (ht : Tab h0 tp) (hr : Rd h0 A (l.map byteV)) (hl : l.length = m) (hm : m ≤ 1099511627776) (hmc : m ≤ c) :
    Ret Try.prog 47 [.pointer (some ⟨tp, 0, none⟩), .slice A m c, .int .i64 at_] h0 fun v h' => v = retVal [.agg (dscC (dscTakeAt l at_).1).toArray, .int .i64 (dscTakeAt l at_).2] ∧ Ext h0 h' := by
  refine ret_of_X Try.func47 rfl rfl fun w0 hw0 => ?_
  simp only [argE, Nat.zero_add, Nat.reduceAdd]
  have st := St.start h0
  refine X_seq ?_
  refine X_reg ?_
  refine XR_wa (opl_new rfl) rfl rfl rfl ?_
  rintro _ hp ⟨p6, rfl, hnew⟩
  replace st := st.new hnew
  refine XR_a (op_assign rfl) rfl rfl ?_
  refine XR_nil ?_
  refine X_seq ?_
  refine X_seq ?_
  refine X_reg ?_
  refine XR_a (op_move rfl) rfl rfl ?_
  refine XR_a (op_lss rfl rfl) rfl rfl ?_
  refine XR_a (op_move rfl) rfl rfl ?_
  refine XR_if 15 rfl (fun h => ?_) (fun h => ?_)
  · refine XR_no rfl rfl ?_
    refine XR_no rfl rfl ?_
    refine XR_no rfl rfl ?_
    refine XR_no rfl rfl ?_
    refine XR_a (op_pick_t rfl rfl) rfl rfl ?_
    refine XR_nil ?_
    refine X_then rfl ?_
    refine X_seq ?_
    refine X_reg ?_
    refine XR_a (op_build (ps := []) (cs := (dscC Dsc.nil).toArray) rfl rfl) rfl rfl ?_
    refine XR_wn (opl_store_whole (us := dscC Dsc.nil) st 0 rfl rfl rfl rfl rfl (dscC_one _) rfl) rfl rfl fun _ hp st => ?_
    simp only [List.set_cons_zero, List.set_cons_succ] at st
    refine XR_a (op_assign rfl) rfl rfl ?_
    refine XR_nil ?_
    refine X_ret (.cons (RV_agg (vs := dscC Dsc.nil) rfl rfl rfl (st.cells 0 rfl)) (.cons (.tmp rfl) .nil)) ?_
    have e : dscTakeAt l at_ = (Dsc.nil, 1) := by unfold dscTakeAt; rw [if_pos (by omega)]
    rw [e]
    exact ⟨rfl, st.low⟩
  · refine XR_a (op_move rfl) rfl rfl ?_
    refine XR_a (op_move rfl) rfl rfl ?_
    refine XR_a (op_len rfl rfl rfl) rfl rfl ?_
    refine XR_a (op_gtr rfl rfl) rfl rfl ?_
    refine XR_a (op_pick_f rfl rfl) rfl rfl ?_
    refine XR_nil ?_
    refine X_if rfl (fun h => ?_) (fun h => ?_)
    · refine X_seq ?_
      refine X_reg ?_
      refine XR_a (op_build (ps := []) (cs := (dscC Dsc.nil).toArray) rfl rfl) rfl rfl ?_
      refine XR_wn (opl_store_whole (us := dscC Dsc.nil) st 0 rfl rfl rfl rfl rfl (dscC_one _) rfl) rfl rfl fun _ hp st => ?_
      simp only [List.set_cons_zero, List.set_cons_succ] at st
      refine XR_a (op_assign rfl) rfl rfl ?_
      refine XR_nil ?_
      refine X_ret (.cons (RV_agg (vs := dscC Dsc.nil) rfl rfl rfl (st.cells 0 rfl)) (.cons (.tmp rfl) .nil)) ?_
      have e : dscTakeAt l at_ = (Dsc.nil, 1) := by unfold dscTakeAt; rw [if_pos (by omega)]
      rw [e]
      exact ⟨rfl, st.low⟩
    · refine X_skip ?_
      refine X_seq ?_
      obtain ⟨q, rfl⟩ : ∃ q : Nat, at_ = q := ⟨at_.toNat, by omega⟩
      have hq : q ≤ m := by omega
      have eT : dscTakeAt l q = dscTake (l.drop q) := by unfold dscTakeAt; rw [if_neg (by omega)]; rfl
      have hL : (l.drop q).length = m - q := by rw [List.length_drop, hl]
      rw [eT]
      refine X_reg ?_
      refine XR_a (op_move rfl) rfl rfl ?_
      refine XR_a (op_move rfl) rfl rfl ?_
      refine XR_a (op_slice_l rfl rfl rfl (by omega) (by omega)) rfl rfl ?_
      have hcut := hr.cut q 1 c (m - q) (by intro hh; simp; omega)
      rw [Nat.mul_one, ← List.map_drop, ← List.map_take, List.take_of_length_le (by omega)] at hcut
      refine XR_wa (opl_call (fnew_spec) rfl (by kernel_rfl)) rfl rfl rfl ?_
      rintro _ hp ⟨pr, rfl, st2⟩
      replace st := st.join st2
      simp only [List.cons_append, List.nil_append] at st
      refine XR_a (op_assign rfl) rfl rfl ?_
      refine XR_nil ?_
      refine X_seq ?_
      refine X_reg ?_
      refine XR_a (op_move rfl) rfl rfl ?_
      refine XR_wa (opl_call (fbytes_any 4 st.here (hcut.ext st.low) hL (by omega) (by omega)) rfl (by kernel_rfl)) rfl rfl rfl ?_
      rintro v hp ⟨w, a1, b1, st2, ha1, r1, f1⟩
      replace st := st.trans st2
      obtain ⟨A7, n7, c7, rfl, hlen7, _, _, hrd7⟩ := st.row 1 rfl
      refine XR_a (op_str hrd7 rfl (by simpa using hlen7) rfl rfl rfl) rfl rfl ?_
      refine XR_a (op_assign rfl) rfl rfl ?_
      refine XR_nil ?_
      refine X_seq ?_
      refine X_reg ?_
      refine XR_a (op_move rfl) rfl rfl ?_
      refine XR_wa (opl_call (fnum_any 4 st.here (hcut.ext st.low) hL (by omega) ha1 r1) rfl (by kernel_rfl)) rfl rfl rfl ?_
      rintro _ hp ⟨x2, a2, b2, rfl, st2, hx2, ha2, r2, f2⟩
      replace st := st.trans st2
      first | refine XR_a (op_convI rfl rfl (by simp only [inK]; omega)) rfl rfl ?_ | refine XR_a (op_conv rfl rfl) rfl rfl ?_
      refine XR_a (op_move rfl) rfl rfl ?_
      refine XR_wa (opl_call (fnum_any 8 st.here (hcut.ext st.low) hL (by omega) ha2 r2) rfl (by kernel_rfl)) rfl rfl rfl ?_
      rintro _ hp ⟨x3, a3, b3, rfl, st2, hx3, ha3, r3, f3⟩
      replace st := st.trans st2
      first | refine XR_a (op_convI rfl rfl (by simp only [inK]; omega)) rfl rfl ?_ | refine XR_a (op_conv rfl rfl) rfl rfl ?_
      refine XR_a (op_move rfl) rfl rfl ?_
      refine XR_wa (opl_call (fnum_any 12 st.here (hcut.ext st.low) hL (by omega) ha3 r3) rfl (by kernel_rfl)) rfl rfl rfl ?_
      rintro _ hp ⟨x4, a4, b4, rfl, st2, hx4, ha4, r4, f4⟩
      replace st := st.trans st2
      refine XR_a (op_build (ps := [(0, .int .i64 (x2 : Int)), (1, .int .i64 (x3 : Int)), (2, .int .u32 (x4 : Int))]) (cs := (dscC ⟨x2, x3, x4⟩).toArray) rfl rfl) rfl rfl ?_
      refine XR_wa (opl_new rfl) rfl rfl rfl ?_
      rintro _ hp ⟨p10, rfl, hnew8⟩
      replace st := st.new hnew8
      refine XR_wn (opl_store_whole (us := dscC ⟨x2, x3, x4⟩) st 0 rfl rfl rfl rfl rfl (dscC_one _) rfl) rfl rfl fun _ hp st => ?_
      simp only [List.set_cons_zero, List.set_cons_succ] at st
      replace st := st.perm (List.Perm.swap _ _ _)
      refine XR_nil ?_
      refine X_seq ?_
      refine X_reg ?_
      refine XR_a (op_move rfl) rfl rfl ?_
      refine XR_a (op_move rfl) rfl rfl ?_
      refine XR_a (op_move rfl) rfl rfl ?_
      refine XR_a (op_move rfl) rfl rfl ?_
      refine XR_a (op_move rfl) rfl rfl ?_
      refine XR_wa (opl_call (fat_spec (st.cell 0 rfl rfl)) rfl (by kernel_rfl)) rfl rfl rfl ?_
      rintro _ _ ⟨rfl, rfl⟩
      first | refine XR_a (op_addN rfl rfl (by simp only [inK]; omega)) rfl rfl ?_ | refine XR_a (op_addI rfl rfl (by simp only [inK]; omega)) rfl rfl ?_ | refine XR_a (op_add rfl rfl) rfl rfl ?_
      refine XR_a (op_slice rfl rfl rfl rfl (by omega) (by omega)) rfl rfl ?_
      have hcut2 := (hr.ext st.low).cut q 1 c a4 (by intro hh; simp; omega)
      rw [Nat.mul_one, ← List.map_drop, ← List.map_take] at hcut2
      refine XR_wa (opl_call (sum_spec (ht.ext st.low) hcut2 (by rw [List.length_take]; omega) (by omega)) rfl (by kernel_rfl)) rfl rfl rfl ?_
      rintro _ _ ⟨rfl, rfl⟩
      have xs := sumN_lt ((l.drop q).take a4)
      refine XR_a (op_assign rfl) rfl rfl ?_
      refine XR_nil ?_
      refine X_seq ?_
      refine X_reg ?_
      refine XR_a (op_move rfl) rfl rfl ?_
      refine XR_wa (opl_call (fnum_any 16 st.here (hcut.ext st.low) hL (by omega) ha4 r4) rfl (by kernel_rfl)) rfl rfl rfl ?_
      rintro _ hp ⟨x5, a5, b5, rfl, st2, hx5, ha5, r5, f5⟩
      replace st := st.trans st2
      refine XR_a (op_assign rfl) rfl rfl ?_
      by_cases hb5 : b5 = true
      · subst hb5
        refine XR_nil ?_
        refine X_seq ?_
        refine X_block ?_
        refine X_seq ?_
        refine X_reg ?_
        refine XR_a (op_move rfl) rfl rfl ?_
        refine XR_wa (opl_call (fok_spec (st.cell 0 rfl rfl)) rfl (by kernel_rfl)) rfl rfl rfl ?_
        rintro _ _ ⟨rfl, rfl⟩
        refine XR_a (op_not rfl) rfl rfl ?_
        refine XR_a (op_assign rfl) rfl rfl ?_
        refine XR_nil ?_
        refine X_then rfl ?_
        refine X_seq ?_
        refine X_reg ?_
        refine XR_a (op_build (ps := []) (cs := (dscC Dsc.nil).toArray) rfl rfl) rfl rfl ?_
        refine XR_wn (opl_store_whole (us := dscC Dsc.nil) st 3 rfl rfl rfl rfl rfl (dscC_one _) rfl) rfl rfl fun _ hp st => ?_
        simp only [List.set_cons_zero, List.set_cons_succ] at st
        refine XR_a (op_assign rfl) rfl rfl ?_
        refine XR_nil ?_
        refine X_ret (.cons (RV_agg (vs := dscC Dsc.nil) rfl rfl rfl (st.cells 3 rfl)) (.cons (.tmp rfl) .nil)) ?_
        have e : dscTake (l.drop q) = (Dsc.nil, 2) := by
          unfold dscTake; rw [if_pos (by rcases r5 with ⟨h, _⟩ | ⟨_, h⟩ <;> first | cases h; done | omega)]
        rw [e]
        exact ⟨rfl, st.low⟩
      · obtain rfl : b5 = false := by simpa using hb5
        have stK := st
        obtain ⟨rfl, rfl⟩ := f5 rfl
        obtain ⟨rfl, rfl⟩ := f4 rfl
        obtain ⟨rfl, rfl⟩ := f3 rfl
        obtain ⟨rfl, rfl⟩ := f2 rfl
        obtain rfl := f1 rfl
        obtain rfl : a4 = 16 := by rcases r4 with ⟨_, h⟩ | ⟨h, _⟩ <;> first | exact h | cases h
        have h20 : ¬ (l.drop q).length < 20 := by rcases r5 with ⟨_, h⟩ | ⟨h, _⟩ <;> first | omega | cases h
        have st := stK
        refine XR_nil ?_
        refine X_seq ?_
        refine X_block ?_
        refine X_seq ?_
        refine X_reg ?_
        refine XR_a (op_move rfl) rfl rfl ?_
        refine XR_wa (opl_call (fok_spec (st.cell 0 rfl rfl)) rfl (by kernel_rfl)) rfl rfl rfl ?_
        rintro _ _ ⟨rfl, rfl⟩
        refine XR_a (op_not rfl) rfl rfl ?_
        refine XR_a (op_assign rfl) rfl rfl ?_
        refine XR_nil ?_
        refine X_else rfl ?_
        refine X_seq ?_
        refine X_reg ?_
        refine XR_a (op_move rfl) rfl rfl ?_
        refine XR_a (op_neqS (b := [68, 69, 83, 67]) rfl rfl) rfl rfl ?_
        refine XR_a (op_assign rfl) rfl rfl ?_
        refine XR_nil ?_
        refine X_if rfl (fun h => ?_) (fun h => ?_)
        · refine X_seq ?_
          refine X_reg ?_
          refine XR_a (op_build (ps := []) (cs := (dscC Dsc.nil).toArray) rfl rfl) rfl rfl ?_
          refine XR_wn (opl_store_whole (us := dscC Dsc.nil) st 3 rfl rfl rfl rfl rfl (dscC_one _) rfl) rfl rfl fun _ hp st => ?_
          simp only [List.set_cons_zero, List.set_cons_succ] at st
          refine XR_a (op_assign rfl) rfl rfl ?_
          refine XR_nil ?_
          refine X_ret (.cons (RV_agg (vs := dscC Dsc.nil) rfl rfl rfl (st.cells 3 rfl)) (.cons (.tmp rfl) .nil)) ?_
          have e : dscTake (l.drop q) = (Dsc.nil, 3) := by unfold dscTake; rw [if_neg h20, if_pos h]
          rw [e]
          exact ⟨rfl, st.low⟩
        · have hmark := h
          refine X_seq ?_
          refine X_reg ?_
          refine XR_a (op_move rfl) rfl rfl ?_
          refine XR_a (op_move rfl) rfl rfl ?_
          refine XR_a (op_neq rfl rfl) rfl rfl ?_
          refine XR_a (op_assign rfl) rfl rfl ?_
          refine XR_nil ?_
          refine X_if rfl (fun h => ?_) (fun h => ?_)
          · refine X_seq ?_
            refine X_reg ?_
            refine XR_a (op_build (ps := []) (cs := (dscC Dsc.nil).toArray) rfl rfl) rfl rfl ?_
            refine XR_wn (opl_store_whole (us := dscC Dsc.nil) st 3 rfl rfl rfl rfl rfl (dscC_one _) rfl) rfl rfl fun _ hp st => ?_
            simp only [List.set_cons_zero, List.set_cons_succ] at st
            refine XR_a (op_assign rfl) rfl rfl ?_
            refine XR_nil ?_
            refine X_ret (.cons (RV_agg (vs := dscC Dsc.nil) rfl rfl rfl (st.cells 3 rfl)) (.cons (.tmp rfl) .nil)) ?_
            have e : dscTake (l.drop q) = (Dsc.nil, 4) := by unfold dscTake; rw [if_neg h20, if_neg hmark, if_pos (by omega)]
            rw [e]
            exact ⟨rfl, st.low⟩
          · have hst : dscTake (l.drop q) = if ¬ (dscAt (l.drop q)).right then (Dsc.nil, 3) else (dscAt (l.drop q), 0) := by
              unfold dscTake; rw [if_neg h20, if_neg hmark, if_neg (by omega)]
            have hD : dscAt (l.drop q) = Dsc.mk (leV (((l.drop q).drop 4).take 4) : Nat) (leV (((l.drop q).drop 8).take 4) : Nat) (leV (((l.drop q).drop 12).take 4) : Nat) := rfl
            generalize Dsc.mk (leV (((l.drop q).drop 4).take 4) : Nat) (leV (((l.drop q).drop 8).take 4) : Nat) (leV (((l.drop q).drop 12).take 4) : Nat) = D at *
            rw [hD] at hst
            refine X_seq ?_
            refine X_reg ?_
            refine XR_a (op_ldA (st.cells 1 rfl) rfl rfl rfl rfl) rfl rfl ?_
            refine XR_wa (opl_call (dright_spec _ _ _ _) rfl (by kernel_rfl)) rfl rfl rfl ?_
            rintro _ hp ⟨rfl, hx⟩
            replace st := st.ext hx
            first | refine XR_a (op_notd rfl) rfl rfl ?_ | refine XR_a (op_not rfl) rfl rfl ?_
            refine XR_a (op_assign rfl) rfl rfl ?_
            refine XR_nil ?_
            refine X_if rfl (fun h => ?_) (fun h => ?_)
            · refine X_seq ?_
              refine X_reg ?_
              refine XR_a (op_build (ps := []) (cs := (dscC Dsc.nil).toArray) rfl rfl) rfl rfl ?_
              refine XR_wn (opl_store_whole (us := dscC Dsc.nil) st 3 rfl rfl rfl rfl rfl (dscC_one _) rfl) rfl rfl fun _ hp st => ?_
              simp only [List.set_cons_zero, List.set_cons_succ] at st
              refine XR_a (op_assign rfl) rfl rfl ?_
              refine XR_nil ?_
              refine X_ret (.cons (RV_agg (vs := dscC Dsc.nil) rfl rfl rfl (st.cells 3 rfl)) (.cons (.tmp rfl) .nil)) ?_
              rw [hst, if_pos h]
              exact ⟨rfl, st.low⟩
            · refine X_skip ?_
              refine X_blk ?_
              refine X_seq ?_
              refine X_reg ?_
              refine XR_a (op_ldA (st.cells 1 rfl) rfl rfl rfl rfl) rfl rfl ?_
              refine XR_wn (opl_store_whole (us := dscC D) st 3 rfl rfl rfl rfl rfl (dscC_one _) rfl) rfl rfl fun _ hp st => ?_
              simp only [List.set_cons_zero, List.set_cons_succ] at st
              refine XR_a (op_assign rfl) rfl rfl ?_
              refine XR_nil ?_
              refine X_ret (.cons (RV_agg (vs := dscC D) rfl rfl rfl (st.cells 3 rfl)) (.cons (.tmp rfl) .nil)) ?_
              rw [hst, if_neg h]
              exact ⟨rfl, st.low⟩

theorem dof_spec {tp m c : Nat} {A : Option Addr} {l : List UInt8} {h0 : Heap} (ht : Tab h0 tp) (hr : Rd h0 A (l.map byteV)) (hl : l.length = m) (hm : m ≤ 1099511627776) (hmc : m ≤ c) :
    Ret Try.prog 31 [.pointer (some ⟨tp, 0, none⟩), .slice A m c] h0 fun v h' => v = retVal [.agg (dscC (dscOf l).1).toArray, .int .i64 (dscOf l).2] ∧ Ext h0 h' := by
  have hof : dscOf l = if (pieces l).2 ≠ 0 then (Dsc.nil, (pieces l).2) else if ¬ (Dsc.mk (pieces l).1.length l.length (sumN l)).right then (Dsc.nil, 5) else (Dsc.mk (pieces l).1.length l.length (sumN l), 0) := rfl
  refine ret_of_X Try.func31 rfl rfl fun w0 hw0 => ?_
  simp only [argE, Nat.zero_add, Nat.reduceAdd]
  have st := St.start h0
  refine X_seq ?_
  refine X_reg ?_
  refine XR_wa (opl_new rfl) rfl rfl rfl ?_
  rintro _ hp ⟨p4, rfl, hnew⟩
  replace st := st.new hnew
  refine XR_a (op_assign rfl) rfl rfl ?_
  refine XR_nil ?_
  refine X_seq ?_
  refine X_reg ?_
  refine XR_a (op_move rfl) rfl rfl ?_
  refine XR_wa (opl_call (pieces_spec (hr.ext st.low) hl hm hmc) rfl (by kernel_rfl)) rfl rfl rfl ?_
  rintro _ hp ⟨v1, rfl, st2⟩
  replace st := st.join st2
  simp only [List.cons_append, List.nil_append] at st
  obtain ⟨A7, n7, c7, rfl, hlen7, _, _, hrd7⟩ := st.row 0 rfl
  rw [hof]
  rw [List.length_map, Nat.mul_one] at hlen7
  generalize (pieces l).2 = e2 at *
  generalize (pieces l).1 = pl at *
  subst hlen7
  subst hl
  have st := st
  refine XR_a (op_move rfl) rfl rfl ?_
  refine XR_a (op_extract rfl rfl) rfl rfl ?_
  refine XR_a (op_extract rfl rfl) rfl rfl ?_
  refine XR_a (op_assign rfl) rfl rfl ?_
  refine XR_a (op_assign rfl) rfl rfl ?_
  refine XR_nil ?_
  refine X_seq ?_
  refine X_seq ?_
  refine X_reg ?_
  refine XR_a (op_move rfl) rfl rfl ?_
  refine XR_a (op_neq rfl rfl) rfl rfl ?_
  refine XR_nil ?_
  refine X_if rfl (fun h => ?_) (fun h => ?_)
  · refine X_seq ?_
    refine X_reg ?_
    refine XR_a (op_build (ps := []) (cs := (dscC Dsc.nil).toArray) rfl rfl) rfl rfl ?_
    refine XR_a (op_move rfl) rfl rfl ?_
    refine XR_wn (opl_store_whole (us := dscC Dsc.nil) st 1 rfl rfl rfl rfl rfl (dscC_one _) rfl) rfl rfl fun _ hp st => ?_
    simp only [List.set_cons_zero, List.set_cons_succ] at st
    refine XR_a (op_assign rfl) rfl rfl ?_
    refine XR_nil ?_
    refine X_ret (.cons (RV_agg (vs := dscC Dsc.nil) rfl rfl rfl (st.cells 1 rfl)) (.cons (.tmp rfl) .nil)) ?_
    rw [if_pos h]
    exact ⟨rfl, st.low⟩
  · rw [if_neg h]
    refine X_skip ?_
    refine X_seq ?_
    refine X_reg ?_
    refine XR_a (op_move rfl) rfl rfl ?_
    refine XR_a (op_len rfl rfl rfl) rfl rfl ?_
    refine XR_a (op_move rfl) rfl rfl ?_
    refine XR_a (op_len rfl rfl rfl) rfl rfl ?_
    refine XR_a (op_move rfl) rfl rfl ?_
    refine XR_a (op_move rfl) rfl rfl ?_
    refine XR_wa (opl_call (sum_spec (ht.ext st.low) (hr.ext st.low) rfl (by omega)) rfl (by kernel_rfl)) rfl rfl rfl ?_
    rintro _ _ ⟨rfl, rfl⟩
    refine XR_a (op_build (ps := [(0, .int .i64 (pl.length : Int)), (1, .int .i64 (l.length : Int)), (2, .int .u32 (sumN l : Nat))]) (cs := (dscC ⟨pl.length, l.length, (sumN l : Nat)⟩).toArray) rfl rfl) rfl rfl ?_
    generalize sumN l = sl
    refine XR_wa (opl_new rfl) rfl rfl rfl ?_
    rintro _ hp ⟨p8, rfl, hnew8⟩
    replace st := st.new hnew8
    refine XR_wn (opl_store_whole (us := dscC ⟨pl.length, l.length, sl⟩) st 0 rfl rfl rfl rfl rfl (dscC_one _) rfl) rfl rfl fun _ hp st => ?_
    simp only [List.set_cons_zero, List.set_cons_succ] at st
    refine XR_nil ?_
    refine X_seq ?_
    refine X_seq ?_
    refine X_reg ?_
    refine XR_a (op_ldA (st.cells 0 rfl) rfl rfl rfl rfl) rfl rfl ?_
    refine XR_wa (opl_call (dright_spec _ _ _ _) rfl (by kernel_rfl)) rfl rfl rfl ?_
    rintro _ hp ⟨rfl, hx⟩
    replace st := st.ext hx
    first | refine XR_a (op_notd rfl) rfl rfl ?_ | refine XR_a (op_not rfl) rfl rfl ?_
    refine XR_nil ?_
    refine X_if rfl (fun h => ?_) (fun h => ?_)
    · refine X_seq ?_
      refine X_reg ?_
      refine XR_a (op_build (ps := []) (cs := (dscC Dsc.nil).toArray) rfl rfl) rfl rfl ?_
      refine XR_wn (opl_store_whole (us := dscC Dsc.nil) st 2 rfl rfl rfl rfl rfl (dscC_one _) rfl) rfl rfl fun _ hp st => ?_
      simp only [List.set_cons_zero, List.set_cons_succ] at st
      refine XR_a (op_assign rfl) rfl rfl ?_
      refine XR_nil ?_
      refine X_ret (.cons (RV_agg (vs := dscC Dsc.nil) rfl rfl rfl (st.cells 2 rfl)) (.cons (.tmp rfl) .nil)) ?_
      rw [if_pos h]
      exact ⟨rfl, st.low⟩
    · refine X_skip ?_
      refine X_seq ?_
      refine X_reg ?_
      refine XR_a (op_ldA (st.cells 0 rfl) rfl rfl rfl rfl) rfl rfl ?_
      refine XR_wn (opl_store_whole (us := dscC ⟨pl.length, l.length, sl⟩) st 2 rfl rfl rfl rfl rfl (dscC_one _) rfl) rfl rfl fun _ hp st => ?_
      simp only [List.set_cons_zero, List.set_cons_succ] at st
      refine XR_a (op_assign rfl) rfl rfl ?_
      refine XR_nil ?_
      refine X_ret (.cons (RV_agg (vs := dscC ⟨pl.length, l.length, sl⟩) rfl rfl rfl (st.cells 2 rfl)) (.cons (.tmp rfl) .nil)) ?_
      rw [if_neg h]
      exact ⟨rfl, st.low⟩

theorem dfits_spec {tp m c : Nat} {x y z : Int} {A : Option Addr} {l : List UInt8} {h0 : Heap} (ht : Tab h0 tp) (hr : Rd h0 A (l.map byteV)) (hl : l.length = m) (hm : m ≤ 1099511627776) (hmc : m ≤ c) :
    Ret Try.prog 33 [.pointer (some ⟨tp, 0, none⟩), .agg #[.int .i64 x, .int .i64 y, .int .u32 z], .slice A m c] h0 fun v h' => v = .bool (decide (dscOf l = (Dsc.mk x y z, 0))) ∧ Ext h0 h' := by
  refine ret_of_X Try.func33 rfl rfl fun w0 hw0 => ?_
  simp only [argE, Nat.zero_add, Nat.reduceAdd]
  have st := St.start h0
  refine X_seq ?_
  refine X_reg ?_
  refine XR_wa (opl_bx rfl rfl) rfl rfl rfl ?_
  rintro _ hp ⟨p, rfl, hnew⟩
  have st := st.new hnew
  refine XR_a (op_assign rfl) rfl rfl ?_
  refine XR_nil ?_
  refine X_seq ?_
  refine X_reg ?_
  refine XR_a (op_move rfl) rfl rfl ?_
  refine XR_a (op_move rfl) rfl rfl ?_
  refine XR_wa (opl_call (dof_spec (ht.ext st.low) (hr.ext st.low) hl hm hmc) rfl (by kernel_rfl)) rfl rfl rfl ?_
  rintro _ hp ⟨rfl, hx⟩
  replace st := st.ext hx
  obtain ⟨T, hT⟩ : ∃ T, dscOf l = T := ⟨_, rfl⟩
  rw [hT]
  refine XR_a (op_move rfl) rfl rfl ?_
  refine XR_a (op_extract rfl rfl) rfl rfl ?_
  refine XR_a (op_extract rfl rfl) rfl rfl ?_
  refine XR_wa (opl_new rfl) rfl rfl rfl ?_
  rintro _ hp ⟨p7, rfl, hnew8⟩
  replace st := st.new hnew8
  refine XR_wn (opl_store_whole (us := dscC T.1) st 0 rfl rfl rfl rfl rfl (dscC_one _) rfl) rfl rfl fun _ hp st => ?_
  simp only [List.set_cons_zero, List.set_cons_succ] at st
  refine XR_a (op_assign rfl) rfl rfl ?_
  refine XR_nil ?_
  refine X_seq ?_
  refine X_reg ?_
  refine XR_a (op_move rfl) rfl rfl ?_
  refine XR_a (op_eql rfl rfl) rfl rfl ?_
  refine XR_a (op_move rfl) rfl rfl ?_
  refine XR_if 17 rfl (fun h => ?_) (fun h => ?_)
  · refine XR_a (op_ldA (st.cells 0 rfl) rfl rfl rfl rfl) rfl rfl ?_
    refine XR_a (op_ldA (st.cells 1 rfl) rfl rfl rfl rfl) rfl rfl ?_
    refine XR_a (op_eqlH rfl rfl (eq_desc _ _ _ _ _ _) (by kernel_rfl)) rfl rfl ?_
    refine XR_a (op_pick_t rfl rfl) rfl rfl ?_
    refine XR_a (op_assign rfl) rfl rfl ?_
    refine XR_nil ?_
    refine X_ret (.cons (.tmp rfl) .nil) ?_
    refine ⟨congrArg Value.bool (decide_eq_decide.2 ⟨fun hh => ?_, fun hh => by rw [hh]⟩), st.low⟩
    rw [← hh, ← h]
  · refine XR_no rfl rfl ?_
    refine XR_no rfl rfl ?_
    refine XR_no rfl rfl ?_
    refine XR_a (op_pick_f rfl rfl) rfl rfl ?_
    refine XR_a (op_assign rfl) rfl rfl ?_
    refine XR_nil ?_
    refine X_ret (.cons (.tmp rfl) .nil) ?_
    exact ⟨congrArg Value.bool (decide_eq_false (fun hh => h (by rw [hh]))).symm, st.low⟩

theorem dend_spec {m c : Nat} {at_ : Int} {A : Option Addr} {l : List UInt8} {h0 : Heap} (hr : Rd h0 A (l.map byteV)) (hl : l.length = m) (hm : m ≤ 1099511627776) :
    Ret Try.prog 49 [.slice A m c, .int .i64 at_] h0 fun v h' => v = retVal [.int .i64 (dscEnd l at_).1, .int .i64 (dscEnd l at_).2] ∧ h0 = h' := by
  refine ret_of_X Try.func49 rfl rfl fun w0 hw0 => ?_
  simp only [argE, Nat.zero_add, Nat.reduceAdd]
  refine X_seq ?_
  refine X_reg ?_
  refine XR_a (op_assign rfl) rfl rfl ?_
  refine XR_a (op_assign rfl) rfl rfl ?_
  refine XR_nil ?_
  refine X_seq ?_
  refine X_seq ?_
  refine X_reg ?_
  refine XR_a (op_move rfl) rfl rfl ?_
  refine XR_a (op_lss rfl rfl) rfl rfl ?_
  refine XR_a (op_move rfl) rfl rfl ?_
  refine XR_if 10 rfl (fun h => ?_) (fun h => ?_)
  · refine XR_no rfl rfl ?_
    refine XR_no rfl rfl ?_
    refine XR_no rfl rfl ?_
    refine XR_no rfl rfl ?_
    refine XR_a (op_pick_t rfl rfl) rfl rfl ?_
    refine XR_nil ?_
    refine X_then rfl ?_
    refine X_seq ?_
    refine X_reg ?_
    refine XR_a (op_assign rfl) rfl rfl ?_
    refine XR_a (op_assign rfl) rfl rfl ?_
    refine XR_nil ?_
    refine X_ret (.cons (.tmp rfl) (.cons (.tmp rfl) .nil)) ?_
    have e : dscEnd l at_ = (0, 1) := by unfold dscEnd; rw [if_pos (by omega)]
    rw [e]
    exact ⟨rfl, rfl⟩
  · refine XR_a (op_move rfl) rfl rfl ?_
    refine XR_a (op_move rfl) rfl rfl ?_
    refine XR_a (op_len rfl rfl rfl) rfl rfl ?_
    refine XR_a (op_gtr rfl rfl) rfl rfl ?_
    refine XR_a (op_pick_f rfl rfl) rfl rfl ?_
    refine XR_nil ?_
    refine X_if rfl (fun h => ?_) (fun h => ?_)
    · refine X_seq ?_
      refine X_reg ?_
      refine XR_a (op_assign rfl) rfl rfl ?_
      refine XR_a (op_assign rfl) rfl rfl ?_
      refine XR_nil ?_
      refine X_ret (.cons (.tmp rfl) (.cons (.tmp rfl) .nil)) ?_
      have e : dscEnd l at_ = (0, 1) := by unfold dscEnd; rw [if_pos (by omega)]
      rw [e]
      exact ⟨rfl, rfl⟩
    · refine X_skip ?_
      refine X_block ?_
      obtain ⟨q, rfl⟩ : ∃ q : Nat, at_ = q := ⟨at_.toNat, by omega⟩
      obtain ⟨R, hR⟩ : ∃ R, endF (m - q + 1) (l.drop q) q = R := ⟨_, rfl⟩
      have eE : dscEnd l q = endV R := by
        unfold dscEnd; rw [if_neg (by omega), ← hR, hl]; rfl
      rw [eE]
      refine X_loop (fun s => m - s) (fun s => [(0, .slice A m c), (1, .int .i64 (s : Int))])
        (fun (s : Nat) hp => h0 = hp ∧ s ≤ m ∧ endF (m - s + 1) (l.drop s) s = R)
        q (.cons rfl (.cons rfl (.nil _))) ⟨rfl, by omega, hR⟩ ?_
      rintro a hp ⟨rfl, ha, hE⟩
      refine X_block ?_
      refine X_seq ?_
      refine X_reg ?_
      refine XR_a (op_move rfl) rfl rfl ?_
      by_cases h2 : a + 2 ≤ m
      · refine XR_a (op_move rfl) rfl rfl ?_
        refine XR_wa (opl_call (fget_at (v := leV ((l.drop a).take 2)) hr hl (by omega) (by simp only [inK]; omega) (getF_at (by rw [wid2, hl]; exact h2))) rfl (by kernel_rfl)) rfl rfl rfl ?_
        rintro _ _ ⟨rfl, rfl⟩
        have hn16 : leV ((l.drop a).take 2) < 65536 := Nat.lt_of_lt_of_le (leV_lt _) (Nat.le_trans (Nat.pow_le_pow_right (by omega) (show _ ≤ 2 by rw [List.length_take]; omega)) (by decide))
        have hstep := endF_step (n := leV ((l.drop a).take 2)) hl h2 rfl
        have hlong := endF_long (n := leV ((l.drop a).take 2)) hl h2 rfl
        have hdone := endF_done (a := a) hl h2
        generalize leV ((l.drop a).take 2) = n at *
        refine XR_a (op_move rfl) rfl rfl ?_
        refine XR_a (op_extract rfl rfl) rfl rfl ?_
        refine XR_a (op_extract rfl rfl) rfl rfl ?_
        refine XR_a (op_assign rfl) rfl rfl ?_
        refine XR_a (op_assign rfl) rfl rfl ?_
        refine XR_nil ?_
        refine X_seq ?_
        refine X_seq ?_
        refine X_reg ?_
        refine XR_a (op_move rfl) rfl rfl ?_
        first | refine XR_a (op_notd rfl) rfl rfl ?_ | refine XR_a (op_not rfl) rfl rfl ?_
        refine XR_a (op_move rfl) rfl rfl ?_
        refine XR_a (op_move rfl) rfl rfl ?_
        first | refine XR_a (op_convI rfl rfl (by simp only [inK]; omega)) rfl rfl ?_ | refine XR_a (op_conv rfl rfl) rfl rfl ?_
        refine XR_a (op_move rfl) rfl rfl ?_
        refine XR_a (op_len rfl rfl rfl) rfl rfl ?_
        refine XR_a (op_move rfl) rfl rfl ?_
        first | refine XR_a (op_subN rfl rfl (by omega) (by simp only [inK]; omega)) rfl rfl ?_ | refine XR_a (op_subI rfl rfl (by simp only [inK]; omega)) rfl rfl ?_ | refine XR_a (op_sub rfl rfl) rfl rfl ?_
        first | refine XR_a (op_subN (n := 2) rfl rfl (by omega) (by simp only [inK]; omega)) rfl rfl ?_ | refine XR_a (op_subI rfl rfl (by simp only [inK]; omega)) rfl rfl ?_ | refine XR_a (op_sub rfl rfl) rfl rfl ?_
        refine XR_a (op_gtr rfl rfl) rfl rfl ?_
        refine XR_a (op_pick_f rfl rfl) rfl rfl ?_
        refine XR_nil ?_
        refine X_if rfl (fun h => ?_) (fun h => ?_)
        · refine X_seq ?_
          refine X_reg ?_
          refine XR_a (op_assign rfl) rfl rfl ?_
          refine XR_a (op_assign rfl) rfl rfl ?_
          refine XR_nil ?_
          refine X_ret (.cons (.tmp rfl) (.cons (.tmp rfl) .nil)) ?_
          rw [hlong (by omega)] at hE
          subst hE
          exact ⟨rfl, rfl⟩
        · refine X_skip ?_
          refine X_seq ?_
          refine X_reg ?_
          refine XR_a (op_move rfl) rfl rfl ?_
          refine XR_a (op_move rfl) rfl rfl ?_
          first | refine XR_a (op_convI rfl rfl (by simp only [inK]; omega)) rfl rfl ?_ | refine XR_a (op_conv rfl rfl) rfl rfl ?_
          first | refine XR_a (op_addN (m := 2) rfl rfl (by simp only [inK]; omega)) rfl rfl ?_ | refine XR_a (op_addI rfl rfl (by simp only [inK]; omega)) rfl rfl ?_ | refine XR_a (op_add rfl rfl) rfl rfl ?_
          first | refine XR_a (op_addN rfl rfl (by simp only [inK]; omega)) rfl rfl ?_ | refine XR_a (op_addI rfl rfl (by simp only [inK]; omega)) rfl rfl ?_ | refine XR_a (op_add rfl rfl) rfl rfl ?_
          refine XR_a (op_assign rfl) rfl rfl ?_
          refine XR_nil ?_
          refine X_seq ?_
          refine X_reg ?_
          refine XR_a (op_move rfl) rfl rfl ?_
          refine XR_a (op_eql rfl rfl) rfl rfl ?_
          refine XR_nil ?_
          refine X_if rfl (fun h => ?_) (fun h => ?_)
          · refine X_seq ?_
            refine X_reg ?_
            refine XR_a (op_move rfl) rfl rfl ?_
            refine XR_a (op_assign rfl) rfl rfl ?_
            refine XR_a (op_assign rfl) rfl rfl ?_
            refine XR_nil ?_
            refine X_ret (.cons (.tmp rfl) (.cons (.tmp rfl) .nil)) ?_
            rw [hdone (by omega)] at hE
            subst hE
            refine ⟨?_, rfl⟩
            show _ = retVal [.int .i64 ((a + 2 : Nat) : Int), .int .i64 0]
            rw [show a + (2 + n) = a + 2 by omega]
          · refine X_skip ?_
            refine X_blk ?_
            rw [hstep (by omega) (by omega)] at hE
            refine X_again (a + 2 + n) (.cons rfl (.cons (congrArg (fun x => some (Value.int .i64 x)) (by omega)) (.nil _))) ⟨rfl, by omega, hE⟩ (by omega)
      · refine XR_a (op_move rfl) rfl rfl ?_
        refine XR_wa (opl_call (fget_no hr hl (by omega) (by simp only [inK]; omega) (getF_short (by rw [wid2, hl]; omega))) rfl (by kernel_rfl)) rfl rfl rfl ?_
        rintro _ _ ⟨rfl, rfl⟩
        refine XR_a (op_move rfl) rfl rfl ?_
        refine XR_a (op_extract rfl rfl) rfl rfl ?_
        refine XR_a (op_extract rfl rfl) rfl rfl ?_
        refine XR_a (op_assign rfl) rfl rfl ?_
        refine XR_a (op_assign rfl) rfl rfl ?_
        refine XR_nil ?_
        refine X_seq ?_
        refine X_seq ?_
        refine X_reg ?_
        refine XR_a (op_move rfl) rfl rfl ?_
        first | refine XR_a (op_notd rfl) rfl rfl ?_ | refine XR_a (op_not rfl) rfl rfl ?_
        refine XR_a (op_move rfl) rfl rfl ?_
        refine XR_no rfl rfl ?_
        refine XR_no rfl rfl ?_
        refine XR_no rfl rfl ?_
        refine XR_no rfl rfl ?_
        refine XR_no rfl rfl ?_
        refine XR_no rfl rfl ?_
        refine XR_no rfl rfl ?_
        refine XR_no rfl rfl ?_
        refine XR_a (op_pick_t rfl rfl) rfl rfl ?_
        refine XR_nil ?_
        refine X_then rfl ?_
        refine X_seq ?_
        refine X_reg ?_
        refine XR_a (op_assign rfl) rfl rfl ?_
        refine XR_a (op_assign rfl) rfl rfl ?_
        refine XR_nil ?_
        refine X_ret (.cons (.tmp rfl) (.cons (.tmp rfl) .nil)) ?_
        rw [endF_short hl (by omega)] at hE
        subst hE
        exact ⟨rfl, rfl⟩

theorem dput_ref {a b c : Nat} {h0 : Heap} (hs : (Dsc.mk a b c).right) (hc : c < 4294967296) : Ret Try.prog 37 [.agg #[.int .i64 (a : Int), .int .i64 (b : Int), .int .u32 (c : Int)]] h0 fun v h' =>
    St h0.size h0 h' [row 5 1 v ((Dsc.mk a b c).bytes.map byteV)] := by
  have hs' := hs
  simp only [Dsc.right] at hs'
  have ha : a < 4294967296 := by omega
  have hb : b < 4294967296 := by omega
  have w4 : wid 4 = 4 := rfl
  refine ret_of_X Try.func37 rfl rfl fun w0 hw0 => ?_
  simp only [argE, Nat.zero_add, Nat.reduceAdd]
  have st := St.start h0
  refine X_seq ?_
  refine X_reg ?_
  refine XR_wa (opl_bx rfl rfl) rfl rfl rfl ?_
  rintro _ hp ⟨p, rfl, hnew⟩
  have st := st.new hnew
  refine XR_a (op_assign rfl) rfl rfl ?_
  refine XR_nil ?_
  refine X_seq ?_
  refine X_reg ?_
  refine XR_wa (opl_lits (([68, 69, 83, 67] : List UInt8).map byteV) rfl rfl rfl rfl (by kernel_rfl) rfl) rfl rfl rfl ?_
  rintro v hp hnew
  replace st := st.new hnew
  obtain ⟨A, n, k, rfl, hlen, _, _, hrd⟩ := st.row 0 rfl
  obtain ⟨gb, o, rfl, _⟩ := hrd.at_ (by decide)
  refine XR_wa (opl_bytesLit st 0 rfl rfl rfl) rfl rfl rfl ?_
  rintro _ hp ⟨rfl, st⟩
  first | refine XR_a (op_field0 rfl rfl) rfl rfl ?_ | refine XR_a (op_fieldn rfl rfl) rfl rfl ?_
  refine XR_a (op_ld (by first | assumption | exact st.cell 0 rfl rfl | exact st.cell 1 rfl rfl | exact st.cell 2 rfl rfl | exact st.cell 3 rfl rfl) rfl rfl rfl) rfl rfl ?_
  first | refine XR_a (op_convI rfl rfl (by simp only [inK]; omega)) rfl rfl ?_ | refine XR_a (op_convU rfl rfl rfl) rfl rfl ?_ | refine XR_a (op_conv rfl rfl) rfl rfl ?_
  refine XR_wa (opl_call (fput_ref ha) rfl (by kernel_rfl)) rfl rfl rfl ?_
  rintro v2 hp st2
  obtain ⟨A2, n2, c2, rfl, hlen2, _, _, hrd2⟩ := st2.row 0 rfl
  replace st := st.ext st2.low
  refine XR_wa (opl_append st 0 rfl (hrd2) (hlen2) (one_bytes _) (by simp [leB_length, w4]) rfl rfl rfl rfl rfl rfl rfl) rfl rfl rfl fun v hp st => ?_
  simp only [List.set_cons_zero, List.set_cons_succ] at st
  rw [← List.map_append, w4] at st
  refine XR_a (op_assign rfl) rfl rfl ?_
  refine XR_nil ?_
  refine X_seq ?_
  refine X_reg ?_
  refine XR_a (op_move rfl) rfl rfl ?_
  first | refine XR_a (op_field0 rfl rfl) rfl rfl ?_ | refine XR_a (op_fieldn rfl rfl) rfl rfl ?_
  refine XR_a (op_ld (by first | assumption | exact st.cell 0 rfl rfl | exact st.cell 1 rfl rfl | exact st.cell 2 rfl rfl | exact st.cell 3 rfl rfl) rfl rfl rfl) rfl rfl ?_
  first | refine XR_a (op_convI rfl rfl (by simp only [inK]; omega)) rfl rfl ?_ | refine XR_a (op_convU rfl rfl rfl) rfl rfl ?_ | refine XR_a (op_conv rfl rfl) rfl rfl ?_
  refine XR_wa (opl_call (fput_ref hb) rfl (by kernel_rfl)) rfl rfl rfl ?_
  rintro v2 hp st2
  obtain ⟨A2, n2, c2, rfl, hlen2, _, _, hrd2⟩ := st2.row 0 rfl
  replace st := st.ext st2.low
  refine XR_wa (opl_append st 0 rfl (hrd2) (hlen2) (one_bytes _) (by simp [leB_length, w4]) rfl rfl rfl rfl rfl rfl rfl) rfl rfl rfl fun v hp st => ?_
  simp only [List.set_cons_zero, List.set_cons_succ] at st
  rw [← List.map_append, w4] at st
  refine XR_a (op_assign rfl) rfl rfl ?_
  refine XR_nil ?_
  refine X_seq ?_
  refine X_reg ?_
  refine XR_a (op_move rfl) rfl rfl ?_
  first | refine XR_a (op_field0 rfl rfl) rfl rfl ?_ | refine XR_a (op_fieldn rfl rfl) rfl rfl ?_
  refine XR_a (op_ld (by first | assumption | exact st.cell 0 rfl rfl | exact st.cell 1 rfl rfl | exact st.cell 2 rfl rfl | exact st.cell 3 rfl rfl) rfl rfl rfl) rfl rfl ?_
  refine XR_wa (opl_call (fput_ref hc) rfl (by kernel_rfl)) rfl rfl rfl ?_
  rintro v2 hp st2
  obtain ⟨A2, n2, c2, rfl, hlen2, _, _, hrd2⟩ := st2.row 0 rfl
  replace st := st.ext st2.low
  refine XR_wa (opl_append st 0 rfl (hrd2) (hlen2) (one_bytes _) (by simp [leB_length, w4]) rfl rfl rfl rfl rfl rfl rfl) rfl rfl rfl fun v hp st => ?_
  simp only [List.set_cons_zero, List.set_cons_succ] at st
  rw [← List.map_append, w4] at st
  have e17 : (([68, 69, 83, 67] : List UInt8) ++ leB 4 a ++ leB 4 b ++ leB 4 c) = (Dsc.mk a b c).head := by simp [Dsc.head]
  rw [e17] at st
  generalize hgen : Dsc.mk (a : Int) b c = s at *
  obtain ⟨A4, n4, c4, rfl, hlen4, _, _, _⟩ := st.row 0 rfl
  obtain rfl : n4 = s.head.length := by simp at hlen4; omega
  refine XR_wa (opl_call (summed_ref (st.rdS 0 rfl).2 rfl (by rw [Dsc.head_length]; omega)) rfl (by kernel_rfl)) rfl rfl rfl ?_
  rintro v hp st4
  replace st := st.join st4
  simp only [List.cons_append, List.nil_append] at st
  refine XR_a (op_assign rfl) rfl rfl ?_
  refine XR_nil ?_
  refine X_ret (.cons (.tmp rfl) .nil) ?_
  exact st.only

theorem number_ref {n c a v : Nat} {k : Int} {A : Option Addr} {l : List UInt8} {h0 : Heap} (hr : Rd h0 A (l.map byteV)) (hl : l.length = n) (hn : n ≤ 140737488355328) (ha : a ≤ 140737488355328) (hg : getF l (a : Int) k = some v) (hv : v < 4294967296) :
    Ret Try.prog 73 [.slice A n c, .int .i64 (a : Int), .int .i64 k] h0 fun r h' => r = .int .i64 (v : Int) ∧ h0 = h' := by
  refine ret_of_X Try.func73 rfl rfl fun w0 hw0 => ?_
  simp only [argE, Nat.zero_add, Nat.reduceAdd]
  refine X_seq ?_
  refine X_reg ?_
  refine XR_a (op_assign rfl) rfl rfl ?_
  refine XR_nil ?_
  refine X_seq ?_
  refine X_reg ?_
  refine XR_a (op_move rfl) rfl rfl ?_
  refine XR_a (op_move rfl) rfl rfl ?_
  refine XR_a (op_move rfl) rfl rfl ?_
  refine XR_wa (opl_call (fget_ref hr hl hn (by simp only [inK]; omega)) rfl (by kernel_rfl)) rfl rfl rfl ?_
  rintro _ _ ⟨rfl, rfl⟩
  rw [hg]
  simp only [Option.getD_some]
  refine XR_a (op_move rfl) rfl rfl ?_
  refine XR_a (op_extract rfl rfl) rfl rfl ?_
  refine XR_a (op_extract rfl rfl) rfl rfl ?_
  refine XR_a (op_assign rfl) rfl rfl ?_
  refine XR_a (op_assign rfl) rfl rfl ?_
  refine XR_nil ?_
  refine X_seq ?_
  refine X_reg ?_
  refine XR_a (op_move rfl) rfl rfl ?_
  first | refine XR_a (op_convI rfl rfl (by simp only [inK]; omega)) rfl rfl ?_ | refine XR_a (op_conv rfl rfl) rfl rfl ?_
  refine XR_a (op_assign rfl) rfl rfl ?_
  refine XR_nil ?_
  refine X_ret (.cons (.tmp rfl) .nil) ?_
  exact ⟨rfl, rfl⟩

theorem dtake_ref {m c : Nat} {at_ : Int} {A : Option Addr} {l : List UInt8} {h0 : Heap} (hr : Rd h0 A (l.map byteV)) (hl : l.length = m) (hm : m ≤ 1099511627776) (hmc : m ≤ c) :
    Ret Try.prog 48 [.slice A m c, .int .i64 at_] h0 fun v h' => v = retVal [.agg (dscC (dscTakeAt l at_).1).toArray, .int .i64 (dscTakeAt l at_).2] ∧ Ext h0 h' := by
  refine ret_of_X Try.func48 rfl rfl fun w0 hw0 => ?_
  simp only [argE, Nat.zero_add, Nat.reduceAdd]
  have st := St.start h0
  refine X_seq ?_
  refine X_reg ?_
  refine XR_wa (opl_new rfl) rfl rfl rfl ?_
  rintro _ hp ⟨p6, rfl, hnew⟩
  replace st := st.new hnew
  refine XR_a (op_assign rfl) rfl rfl ?_
  refine XR_nil ?_
  refine X_seq ?_
  refine X_seq ?_
  refine X_reg ?_
  refine XR_a (op_move rfl) rfl rfl ?_
  refine XR_a (op_lss rfl rfl) rfl rfl ?_
  refine XR_a (op_move rfl) rfl rfl ?_
  refine XR_if 10 rfl (fun h => ?_) (fun h => ?_)
  · refine XR_no rfl rfl ?_
    refine XR_no rfl rfl ?_
    refine XR_no rfl rfl ?_
    refine XR_no rfl rfl ?_
    refine XR_a (op_pick_t rfl rfl) rfl rfl ?_
    refine XR_nil ?_
    refine X_then rfl ?_
    refine X_seq ?_
    refine X_reg ?_
    refine XR_a (op_build (ps := []) (cs := (dscC Dsc.nil).toArray) rfl rfl) rfl rfl ?_
    refine XR_wn (opl_store_whole (us := dscC Dsc.nil) st 0 rfl rfl rfl rfl rfl (dscC_one _) rfl) rfl rfl fun _ hp st => ?_
    simp only [List.set_cons_zero, List.set_cons_succ] at st
    refine XR_a (op_assign rfl) rfl rfl ?_
    refine XR_nil ?_
    refine X_ret (.cons (RV_agg (vs := dscC Dsc.nil) rfl rfl rfl (st.cells 0 rfl)) (.cons (.tmp rfl) .nil)) ?_
    have e : dscTakeAt l at_ = (Dsc.nil, 1) := by unfold dscTakeAt; rw [if_pos (by omega)]
    rw [e]
    exact ⟨rfl, st.low⟩
  · refine XR_a (op_move rfl) rfl rfl ?_
    refine XR_a (op_move rfl) rfl rfl ?_
    refine XR_a (op_len rfl rfl rfl) rfl rfl ?_
    refine XR_a (op_gtr rfl rfl) rfl rfl ?_
    refine XR_a (op_pick_f rfl rfl) rfl rfl ?_
    refine XR_nil ?_
    refine X_if rfl (fun h => ?_) (fun h => ?_)
    · refine X_seq ?_
      refine X_reg ?_
      refine XR_a (op_build (ps := []) (cs := (dscC Dsc.nil).toArray) rfl rfl) rfl rfl ?_
      refine XR_wn (opl_store_whole (us := dscC Dsc.nil) st 0 rfl rfl rfl rfl rfl (dscC_one _) rfl) rfl rfl fun _ hp st => ?_
      simp only [List.set_cons_zero, List.set_cons_succ] at st
      refine XR_a (op_assign rfl) rfl rfl ?_
      refine XR_nil ?_
      refine X_ret (.cons (RV_agg (vs := dscC Dsc.nil) rfl rfl rfl (st.cells 0 rfl)) (.cons (.tmp rfl) .nil)) ?_
      have e : dscTakeAt l at_ = (Dsc.nil, 1) := by unfold dscTakeAt; rw [if_pos (by omega)]
      rw [e]
      exact ⟨rfl, st.low⟩
    · refine X_skip ?_
      refine X_seq ?_
      obtain ⟨q, rfl⟩ : ∃ q : Nat, at_ = q := ⟨at_.toNat, by omega⟩
      have hq : q ≤ m := by omega
      have eT : dscTakeAt l q = dscTake (l.drop q) := by unfold dscTakeAt; rw [if_neg (by omega)]; rfl
      have hL : (l.drop q).length = m - q := by rw [List.length_drop, hl]
      rw [eT]
      refine X_reg ?_
      refine XR_a (op_move rfl) rfl rfl ?_
      refine XR_a (op_move rfl) rfl rfl ?_
      refine XR_a (op_slice_l rfl rfl rfl (by omega) (by omega)) rfl rfl ?_
      have hcut := hr.cut q 1 c (m - q) (by intro hh; simp; omega)
      rw [Nat.mul_one, ← List.map_drop, ← List.map_take, List.take_of_length_le (by omega)] at hcut
      generalize l.drop q = L at *
      refine XR_a (op_assign rfl) rfl rfl ?_
      refine XR_nil ?_
      refine X_seq ?_
      refine X_seq ?_
      refine X_reg ?_
      refine XR_a (op_move rfl) rfl rfl ?_
      refine XR_a (op_len rfl rfl rfl) rfl rfl ?_
      refine XR_a (op_lss rfl rfl) rfl rfl ?_
      refine XR_nil ?_
      refine X_if rfl (fun h => ?_) (fun h => ?_)
      · refine X_seq ?_
        refine X_reg ?_
        refine XR_a (op_build (ps := []) (cs := (dscC Dsc.nil).toArray) rfl rfl) rfl rfl ?_
        refine XR_wn (opl_store_whole (us := dscC Dsc.nil) st 0 rfl rfl rfl rfl rfl (dscC_one _) rfl) rfl rfl fun _ hp st => ?_
        simp only [List.set_cons_zero, List.set_cons_succ] at st
        refine XR_a (op_assign rfl) rfl rfl ?_
        refine XR_nil ?_
        refine X_ret (.cons (RV_agg (vs := dscC Dsc.nil) rfl rfl rfl (st.cells 0 rfl)) (.cons (.tmp rfl) .nil)) ?_
        have e : dscTake L = (Dsc.nil, 2) := by unfold dscTake; rw [if_pos (by omega)]
        rw [e]
        exact ⟨rfl, st.low⟩
      · have h20 : ¬ L.length < 20 := by omega
        refine X_skip ?_
        refine X_seq ?_
        refine X_seq ?_
        refine X_reg ?_
        refine XR_a (op_move rfl) rfl rfl ?_
        refine XR_a (op_slice_h (h := 4) rfl rfl rfl (by omega)) rfl rfl ?_
        have hcut2 := (hcut.ext st.low).cut 0 1 (c - q) 4 (by intro hh; omega)
        rw [Nat.zero_mul, List.drop_zero, ← List.map_take] at hcut2
        refine XR_a (op_str hcut2 rfl (by rw [List.length_take]; omega) rfl rfl rfl) rfl rfl ?_
        refine XR_a (op_neqS (b := [68, 69, 83, 67]) rfl rfl) rfl rfl ?_
        refine XR_nil ?_
        refine X_if rfl (fun h => ?_) (fun h => ?_)
        · refine X_seq ?_
          refine X_reg ?_
          refine XR_a (op_build (ps := []) (cs := (dscC Dsc.nil).toArray) rfl rfl) rfl rfl ?_
          refine XR_wn (opl_store_whole (us := dscC Dsc.nil) st 0 rfl rfl rfl rfl rfl (dscC_one _) rfl) rfl rfl fun _ hp st => ?_
          simp only [List.set_cons_zero, List.set_cons_succ] at st
          refine XR_a (op_assign rfl) rfl rfl ?_
          refine XR_nil ?_
          refine X_ret (.cons (RV_agg (vs := dscC Dsc.nil) rfl rfl rfl (st.cells 0 rfl)) (.cons (.tmp rfl) .nil)) ?_
          have e : dscTake L = (Dsc.nil, 3) := by unfold dscTake; rw [if_neg h20, if_pos h]
          rw [e]
          exact ⟨rfl, st.low⟩
        · have hmark := h
          have xs := sumN_lt (L.take 16)
          refine X_skip ?_
          refine X_seq ?_
          refine X_seq ?_
          refine X_draw_in (butAt [(1, .grow), (4, .grow)]) [0, 2, 3, 1, 4, 5, 6] (by kernel_rfl) (by kernel_rfl) rfl ?_
          refine XR_a (op_move rfl) rfl rfl ?_
          refine XR_a (op_move rfl) rfl rfl ?_
          refine XR_a (op_slice_h (h := 16) rfl rfl rfl (by omega)) rfl rfl ?_
          have hcut3 := (hcut.ext st.low).cut 0 1 (c - q) 16 (by intro hh; omega)
          rw [Nat.zero_mul, List.drop_zero, ← List.map_take] at hcut3
          refine XR_ga (opl_call (number_ref (v := leV ((L.drop 16).take 4)) (a := 16) (hcut.ext st.low) hL (by omega) (by omega) (getF_at (by rw [hL]; show 16 + 4 ≤ m - q; omega)) (leV4_lt' _ _)) rfl (by kernel_rfl)) rfl rfl rfl (fun _ _ h => h.2 ▸ Low.refl _ _) ?_
          rintro _ _ ⟨rfl, rfl⟩
          refine XR_ga (opl_call (sum_ref hcut3 (by rw [List.length_take]; omega) (by omega)) rfl (by kernel_rfl)) rfl rfl rfl (fun _ _ h => h.2 ▸ Low.refl _ _) ?_
          rintro _ _ ⟨rfl, rfl⟩
          first | refine XR_a (op_convI rfl rfl (by simp only [inK]; omega)) rfl rfl ?_ | refine XR_a (op_conv rfl rfl) rfl rfl ?_
          refine XR_a (op_neq rfl rfl) rfl rfl ?_
          refine XR_nil ?_
          refine X_if rfl (fun h => ?_) (fun h => ?_)
          · refine X_seq ?_
            refine X_reg ?_
            refine XR_a (op_build (ps := []) (cs := (dscC Dsc.nil).toArray) rfl rfl) rfl rfl ?_
            refine XR_wn (opl_store_whole (us := dscC Dsc.nil) st 0 rfl rfl rfl rfl rfl (dscC_one _) rfl) rfl rfl fun _ hp st => ?_
            simp only [List.set_cons_zero, List.set_cons_succ] at st
            refine XR_a (op_assign rfl) rfl rfl ?_
            refine XR_nil ?_
            refine X_ret (.cons (RV_agg (vs := dscC Dsc.nil) rfl rfl rfl (st.cells 0 rfl)) (.cons (.tmp rfl) .nil)) ?_
            have e : dscTake L = (Dsc.nil, 4) := by unfold dscTake; rw [if_neg h20, if_neg hmark, if_pos (by omega)]
            rw [e]
            exact ⟨rfl, st.low⟩
          · have hst : dscTake L = if ¬ (dscAt L).right then (Dsc.nil, 3) else (dscAt L, 0) := by
              unfold dscTake; rw [if_neg h20, if_neg hmark, if_neg (by omega)]
            have x4 := leV4_lt' L 4
            have x8 := leV4_lt' L 8
            have x12 := leV4_lt' L 12
            refine X_skip ?_
            refine X_seq ?_
            refine X_reg ?_
            refine XR_a (op_move rfl) rfl rfl ?_
            refine XR_wa (opl_call (number_ref (v := leV ((L.drop 4).take 4)) (a := 4) (hcut.ext st.low) hL (by omega) (by omega) (getF_at (by rw [hL]; show 4 + 4 ≤ m - q; omega)) (leV4_lt' _ _)) rfl (by kernel_rfl)) rfl rfl rfl ?_
            rintro _ _ ⟨rfl, rfl⟩
            refine XR_a (op_move rfl) rfl rfl ?_
            refine XR_wa (opl_call (number_ref (v := leV ((L.drop 8).take 4)) (a := 8) (hcut.ext st.low) hL (by omega) (by omega) (getF_at (by rw [hL]; show 8 + 4 ≤ m - q; omega)) (leV4_lt' _ _)) rfl (by kernel_rfl)) rfl rfl rfl ?_
            rintro _ _ ⟨rfl, rfl⟩
            refine XR_a (op_move rfl) rfl rfl ?_
            refine XR_wa (opl_call (number_ref (v := leV ((L.drop 12).take 4)) (a := 12) (hcut.ext st.low) hL (by omega) (by omega) (getF_at (by rw [hL]; show 12 + 4 ≤ m - q; omega)) (leV4_lt' _ _)) rfl (by kernel_rfl)) rfl rfl rfl ?_
            rintro _ _ ⟨rfl, rfl⟩
            first | refine XR_a (op_convI rfl rfl (by simp only [inK]; omega)) rfl rfl ?_ | refine XR_a (op_convU rfl rfl rfl) rfl rfl ?_ | refine XR_a (op_conv rfl rfl) rfl rfl ?_
            refine XR_a (op_build (ps := [(0, .int .i64 (leV ((L.drop 4).take 4) : Nat)), (1, .int .i64 (leV ((L.drop 8).take 4) : Nat)), (2, .int .u32 (leV ((L.drop 12).take 4) : Nat))]) (cs := (dscC (dscAt L)).toArray) rfl rfl) rfl rfl ?_
            refine XR_wa (opl_new rfl) rfl rfl rfl ?_
            rintro _ hp ⟨p7, rfl, hnew8⟩
            replace st := st.new hnew8
            refine XR_wn (opl_store_whole (us := dscC (dscAt L)) st 0 rfl rfl rfl rfl rfl (dscC_one _) rfl) rfl rfl fun _ hp st => ?_
            simp only [List.set_cons_zero, List.set_cons_succ] at st
            generalize dscAt L = D at *
            refine XR_nil ?_
            refine X_seq ?_
            refine X_seq ?_
            refine X_reg ?_
            refine XR_a (op_ldA (st.cells 0 rfl) rfl rfl rfl rfl) rfl rfl ?_
            refine XR_wa (opl_call (dright_ref _ _ _ _) rfl (by kernel_rfl)) rfl rfl rfl ?_
            rintro _ hp ⟨rfl, hx⟩
            replace st := st.ext hx
            first | refine XR_a (op_notd rfl) rfl rfl ?_ | refine XR_a (op_not rfl) rfl rfl ?_
            refine XR_nil ?_
            refine X_if rfl (fun h => ?_) (fun h => ?_)
            · refine X_seq ?_
              refine X_reg ?_
              refine XR_a (op_build (ps := []) (cs := (dscC Dsc.nil).toArray) rfl rfl) rfl rfl ?_
              refine XR_wn (opl_store_whole (us := dscC Dsc.nil) st 1 rfl rfl rfl rfl rfl (dscC_one _) rfl) rfl rfl fun _ hp st => ?_
              simp only [List.set_cons_zero, List.set_cons_succ] at st
              refine XR_a (op_assign rfl) rfl rfl ?_
              refine XR_nil ?_
              refine X_ret (.cons (RV_agg (vs := dscC Dsc.nil) rfl rfl rfl (st.cells 1 rfl)) (.cons (.tmp rfl) .nil)) ?_
              rw [hst, if_pos h]
              exact ⟨rfl, st.low⟩
            · refine X_skip ?_
              refine X_seq ?_
              refine X_reg ?_
              refine XR_a (op_ldA (st.cells 0 rfl) rfl rfl rfl rfl) rfl rfl ?_
              refine XR_wn (opl_store_whole (us := dscC D) st 1 rfl rfl rfl rfl rfl (dscC_one _) rfl) rfl rfl fun _ hp st => ?_
              simp only [List.set_cons_zero, List.set_cons_succ] at st
              refine XR_a (op_assign rfl) rfl rfl ?_
              refine XR_nil ?_
              refine X_ret (.cons (RV_agg (vs := dscC D) rfl rfl rfl (st.cells 1 rfl)) (.cons (.tmp rfl) .nil)) ?_
              rw [hst, if_neg h]
              exact ⟨rfl, st.low⟩

theorem dof_ref {m c : Nat} {A : Option Addr} {l : List UInt8} {h0 : Heap} (hr : Rd h0 A (l.map byteV)) (hl : l.length = m) (hm : m ≤ 1099511627776) (hmc : m ≤ c) :
    Ret Try.prog 32 [.slice A m c] h0 fun v h' => v = retVal [.agg (dscC (dscOf l).1).toArray, .int .i64 (dscOf l).2] ∧ Ext h0 h' := by
  have hof : dscOf l = if (pieces l).2 ≠ 0 then (Dsc.nil, (pieces l).2) else if ¬ (Dsc.mk (pieces l).1.length l.length (sumN l)).right then (Dsc.nil, 5) else (Dsc.mk (pieces l).1.length l.length (sumN l), 0) := rfl
  refine ret_of_X Try.func32 rfl rfl fun w0 hw0 => ?_
  simp only [argE, Nat.zero_add, Nat.reduceAdd]
  have st := St.start h0
  refine X_seq ?_
  refine X_reg ?_
  refine XR_wa (opl_new rfl) rfl rfl rfl ?_
  rintro _ hp ⟨p4, rfl, hnew⟩
  replace st := st.new hnew
  refine XR_a (op_assign rfl) rfl rfl ?_
  refine XR_nil ?_
  refine X_seq ?_
  refine X_reg ?_
  refine XR_a (op_move rfl) rfl rfl ?_
  refine XR_wa (opl_call (pieces_ref (hr.ext st.low) hl hm hmc) rfl (by kernel_rfl)) rfl rfl rfl ?_
  rintro _ hp ⟨v1, rfl, st2⟩
  replace st := st.join st2
  simp only [List.cons_append, List.nil_append] at st
  obtain ⟨A7, n7, c7, rfl, hlen7, _, _, hrd7⟩ := st.row 0 rfl
  rw [hof]
  rw [List.length_map, Nat.mul_one] at hlen7
  generalize (pieces l).2 = e2 at *
  generalize (pieces l).1 = pl at *
  subst hlen7
  subst hl
  have st := st
  refine XR_a (op_move rfl) rfl rfl ?_
  refine XR_a (op_extract rfl rfl) rfl rfl ?_
  refine XR_a (op_extract rfl rfl) rfl rfl ?_
  refine XR_a (op_assign rfl) rfl rfl ?_
  refine XR_a (op_assign rfl) rfl rfl ?_
  refine XR_nil ?_
  refine X_seq ?_
  refine X_seq ?_
  refine X_reg ?_
  refine XR_a (op_move rfl) rfl rfl ?_
  refine XR_a (op_neq rfl rfl) rfl rfl ?_
  refine XR_nil ?_
  refine X_if rfl (fun h => ?_) (fun h => ?_)
  · refine X_seq ?_
    refine X_reg ?_
    refine XR_a (op_build (ps := []) (cs := (dscC Dsc.nil).toArray) rfl rfl) rfl rfl ?_
    refine XR_a (op_move rfl) rfl rfl ?_
    refine XR_wn (opl_store_whole (us := dscC Dsc.nil) st 1 rfl rfl rfl rfl rfl (dscC_one _) rfl) rfl rfl fun _ hp st => ?_
    simp only [List.set_cons_zero, List.set_cons_succ] at st
    refine XR_a (op_assign rfl) rfl rfl ?_
    refine XR_nil ?_
    refine X_ret (.cons (RV_agg (vs := dscC Dsc.nil) rfl rfl rfl (st.cells 1 rfl)) (.cons (.tmp rfl) .nil)) ?_
    rw [if_pos h]
    exact ⟨rfl, st.low⟩
  · rw [if_neg h]
    refine X_skip ?_
    refine X_seq ?_
    refine X_reg ?_
    refine XR_a (op_move rfl) rfl rfl ?_
    refine XR_a (op_len rfl rfl rfl) rfl rfl ?_
    refine XR_a (op_move rfl) rfl rfl ?_
    refine XR_a (op_len rfl rfl rfl) rfl rfl ?_
    refine XR_a (op_move rfl) rfl rfl ?_
    refine XR_wa (opl_call (sum_ref (hr.ext st.low) rfl (by omega)) rfl (by kernel_rfl)) rfl rfl rfl ?_
    rintro _ _ ⟨rfl, rfl⟩
    refine XR_a (op_build (ps := [(0, .int .i64 (pl.length : Int)), (1, .int .i64 (l.length : Int)), (2, .int .u32 (sumN l : Nat))]) (cs := (dscC ⟨pl.length, l.length, (sumN l : Nat)⟩).toArray) rfl rfl) rfl rfl ?_
    generalize sumN l = sl
    refine XR_wa (opl_new rfl) rfl rfl rfl ?_
    rintro _ hp ⟨p8, rfl, hnew8⟩
    replace st := st.new hnew8
    refine XR_wn (opl_store_whole (us := dscC ⟨pl.length, l.length, sl⟩) st 0 rfl rfl rfl rfl rfl (dscC_one _) rfl) rfl rfl fun _ hp st => ?_
    simp only [List.set_cons_zero, List.set_cons_succ] at st
    refine XR_nil ?_
    refine X_seq ?_
    refine X_seq ?_
    refine X_reg ?_
    refine XR_a (op_ldA (st.cells 0 rfl) rfl rfl rfl rfl) rfl rfl ?_
    refine XR_wa (opl_call (dright_ref _ _ _ _) rfl (by kernel_rfl)) rfl rfl rfl ?_
    rintro _ hp ⟨rfl, hx⟩
    replace st := st.ext hx
    first | refine XR_a (op_notd rfl) rfl rfl ?_ | refine XR_a (op_not rfl) rfl rfl ?_
    refine XR_nil ?_
    refine X_if rfl (fun h => ?_) (fun h => ?_)
    · refine X_seq ?_
      refine X_reg ?_
      refine XR_a (op_build (ps := []) (cs := (dscC Dsc.nil).toArray) rfl rfl) rfl rfl ?_
      refine XR_wn (opl_store_whole (us := dscC Dsc.nil) st 2 rfl rfl rfl rfl rfl (dscC_one _) rfl) rfl rfl fun _ hp st => ?_
      simp only [List.set_cons_zero, List.set_cons_succ] at st
      refine XR_a (op_assign rfl) rfl rfl ?_
      refine XR_nil ?_
      refine X_ret (.cons (RV_agg (vs := dscC Dsc.nil) rfl rfl rfl (st.cells 2 rfl)) (.cons (.tmp rfl) .nil)) ?_
      rw [if_pos h]
      exact ⟨rfl, st.low⟩
    · refine X_skip ?_
      refine X_seq ?_
      refine X_reg ?_
      refine XR_a (op_ldA (st.cells 0 rfl) rfl rfl rfl rfl) rfl rfl ?_
      refine XR_wn (opl_store_whole (us := dscC ⟨pl.length, l.length, sl⟩) st 2 rfl rfl rfl rfl rfl (dscC_one _) rfl) rfl rfl fun _ hp st => ?_
      simp only [List.set_cons_zero, List.set_cons_succ] at st
      refine XR_a (op_assign rfl) rfl rfl ?_
      refine XR_nil ?_
      refine X_ret (.cons (RV_agg (vs := dscC ⟨pl.length, l.length, sl⟩) rfl rfl rfl (st.cells 2 rfl)) (.cons (.tmp rfl) .nil)) ?_
      rw [if_neg h]
      exact ⟨rfl, st.low⟩

theorem dend_ref {m c : Nat} {at_ : Int} {A : Option Addr} {l : List UInt8} {h0 : Heap} (hr : Rd h0 A (l.map byteV)) (hl : l.length = m) (hm : m ≤ 1099511627776) :
    Ret Try.prog 50 [.slice A m c, .int .i64 at_] h0 fun v h' => v = retVal [.int .i64 (dscEnd l at_).1, .int .i64 (dscEnd l at_).2] ∧ h0 = h' := by
  refine ret_of_X Try.func50 rfl rfl fun w0 hw0 => ?_
  simp only [argE, Nat.zero_add, Nat.reduceAdd]
  refine X_seq ?_
  refine X_reg ?_
  refine XR_a (op_assign rfl) rfl rfl ?_
  refine XR_a (op_assign rfl) rfl rfl ?_
  refine XR_nil ?_
  refine X_seq ?_
  refine X_seq ?_
  refine X_reg ?_
  refine XR_a (op_move rfl) rfl rfl ?_
  refine XR_a (op_lss rfl rfl) rfl rfl ?_
  refine XR_a (op_move rfl) rfl rfl ?_
  refine XR_if 9 rfl (fun h => ?_) (fun h => ?_)
  · refine XR_no rfl rfl ?_
    refine XR_no rfl rfl ?_
    refine XR_no rfl rfl ?_
    refine XR_no rfl rfl ?_
    refine XR_a (op_pick_t rfl rfl) rfl rfl ?_
    refine XR_nil ?_
    refine X_then rfl ?_
    refine X_seq ?_
    refine X_reg ?_
    refine XR_a (op_assign rfl) rfl rfl ?_
    refine XR_a (op_assign rfl) rfl rfl ?_
    refine XR_nil ?_
    refine X_ret (.cons (.tmp rfl) (.cons (.tmp rfl) .nil)) ?_
    have e : dscEnd l at_ = (0, 1) := by unfold dscEnd; rw [if_pos (by omega)]
    rw [e]
    exact ⟨rfl, rfl⟩
  · refine XR_a (op_move rfl) rfl rfl ?_
    refine XR_a (op_move rfl) rfl rfl ?_
    refine XR_a (op_len rfl rfl rfl) rfl rfl ?_
    refine XR_a (op_gtr rfl rfl) rfl rfl ?_
    refine XR_a (op_pick_f rfl rfl) rfl rfl ?_
    refine XR_nil ?_
    refine X_if rfl (fun h => ?_) (fun h => ?_)
    · refine X_seq ?_
      refine X_reg ?_
      refine XR_a (op_assign rfl) rfl rfl ?_
      refine XR_a (op_assign rfl) rfl rfl ?_
      refine XR_nil ?_
      refine X_ret (.cons (.tmp rfl) (.cons (.tmp rfl) .nil)) ?_
      have e : dscEnd l at_ = (0, 1) := by unfold dscEnd; rw [if_pos (by omega)]
      rw [e]
      exact ⟨rfl, rfl⟩
    · refine X_skip ?_
      refine X_seq ?_
      refine X_block ?_
      obtain ⟨q, rfl⟩ : ∃ q : Nat, at_ = q := ⟨at_.toNat, by omega⟩
      obtain ⟨R, hR⟩ : ∃ R, endF (m - q + 1) (l.drop q) q = R := ⟨_, rfl⟩
      have eE : dscEnd l q = endV R := by
        unfold dscEnd; rw [if_neg (by omega), ← hR, hl]; rfl
      rw [eE]
      refine X_loop (fun s => m + 100000 - s) (fun s => [(0, .slice A m c), (1, .int .i64 (s : Int))])
        (fun (s : Nat) hp => h0 = hp ∧ s ≤ m + 65537 ∧ endF (m - s + 1) (l.drop s) s = R)
        q (.cons rfl (.cons rfl (.nil _))) ⟨rfl, by omega, hR⟩ ?_
      rintro a hp ⟨rfl, ha, hE⟩
      refine X_seq ?_
      refine X_seq ?_
      refine X_reg ?_
      refine XR_a (op_move rfl) rfl rfl ?_
      refine XR_a (op_move rfl) rfl rfl ?_
      refine XR_a (op_len rfl rfl rfl) rfl rfl ?_
      first | refine XR_a (op_subN (n := 2) rfl rfl (by omega) (by simp only [inK]; omega)) rfl rfl ?_ | refine XR_a (op_subI rfl rfl (by simp only [inK]; omega)) rfl rfl ?_ | refine XR_a (op_sub rfl rfl) rfl rfl ?_
      refine XR_a (op_leq rfl rfl) rfl rfl ?_
      refine XR_nil ?_
      refine X_if rfl (fun h => ?_) (fun h => ?_)
      · have h2 : a + 2 ≤ m := by omega
        obtain ⟨b, o, rfl, hc⟩ := hr.at_ (by rw [List.length_map]; omega)
        have hca := hc a (byteV l[a]) (by simp [show a < l.length by omega])
        have hcb := hc (a + 1) (byteV l[a + 1]) (by simp [show a + 1 < l.length by omega])
        have hn2 := leV2 (l := l) (a := a) (by omega)
        have xa := (l[a]).toNat_lt
        have xb := (l[a + 1]).toNat_lt
        have hstep := endF_step (n := leV ((l.drop a).take 2)) hl h2 rfl
        have hlong := endF_long (n := leV ((l.drop a).take 2)) hl h2 rfl
        have hdone := endF_done (a := a) hl h2
        generalize leV ((l.drop a).take 2) = n at *
        generalize l[a] = ya at *
        generalize l[a + 1] = yb at *
        refine X_skip ?_
        refine X_block ?_
        refine X_seq ?_
        refine X_draw byKind (by kernel_rfl) (by kernel_rfl) ?_
        refine XR_a (op_move rfl) rfl rfl ?_
        refine XR_a (op_move rfl) rfl rfl ?_
        first | refine XR_a (op_index1 rfl rfl rfl (by omega)) rfl rfl ?_ | refine XR_a (op_index rfl rfl rfl (by omega)) rfl rfl ?_
        refine XR_a (op_ld (hca) rfl rfl rfl) rfl rfl ?_
        first | refine XR_a (op_convI rfl rfl (by simp only [inK]; omega)) rfl rfl ?_ | refine XR_a (op_conv rfl rfl) rfl rfl ?_
        refine XR_a (op_move rfl) rfl rfl ?_
        refine XR_a (op_move rfl) rfl rfl ?_
        first | refine XR_a (op_addN (n := 1) rfl rfl (by simp only [inK]; omega)) rfl rfl ?_ | refine XR_a (op_addI rfl rfl (by simp only [inK]; omega)) rfl rfl ?_ | refine XR_a (op_add rfl rfl) rfl rfl ?_
        first | refine XR_a (op_index1 rfl rfl rfl (by omega)) rfl rfl ?_ | refine XR_a (op_index rfl rfl rfl (by omega)) rfl rfl ?_
        refine XR_a (op_ld (hcb) rfl rfl rfl) rfl rfl ?_
        first | refine XR_a (op_convI rfl rfl (by simp only [inK]; omega)) rfl rfl ?_ | refine XR_a (op_conv rfl rfl) rfl rfl ?_
        refine XR_a (op_mulN (m := 256) rfl rfl (by simp only [inK]; omega)) rfl rfl ?_
        first | refine XR_a (op_addN rfl rfl (by simp only [inK]; omega)) rfl rfl ?_ | refine XR_a (op_addI rfl rfl (by simp only [inK]; omega)) rfl rfl ?_ | refine XR_a (op_add rfl rfl) rfl rfl ?_
        rw [← hn2]
        refine XR_a (op_assign rfl) rfl rfl ?_
        refine XR_nil ?_
        refine X_seq ?_
        refine X_seq ?_
        refine X_reg ?_
        refine XR_a (op_move rfl) rfl rfl ?_
        refine XR_a (op_eql rfl rfl) rfl rfl ?_
        refine XR_nil ?_
        refine X_if rfl (fun h => ?_) (fun h => ?_)
        · refine X_seq ?_
          refine X_reg ?_
          refine XR_a (op_move rfl) rfl rfl ?_
          first | refine XR_a (op_addN (n := 2) rfl rfl (by simp only [inK]; omega)) rfl rfl ?_ | refine XR_a (op_addI rfl rfl (by simp only [inK]; omega)) rfl rfl ?_ | refine XR_a (op_add rfl rfl) rfl rfl ?_
          refine XR_a (op_assign rfl) rfl rfl ?_
          refine XR_a (op_assign rfl) rfl rfl ?_
          refine XR_nil ?_
          refine X_ret (.cons (.tmp rfl) (.cons (.tmp rfl) .nil)) ?_
          rw [hdone (by omega)] at hE
          subst hE
          refine ⟨?_, rfl⟩
          show _ = retVal [.int .i64 ((a + 2 : Nat) : Int), .int .i64 0]
          rfl
        · refine X_skip ?_
          refine X_reg ?_
          refine XR_a (op_move rfl) rfl rfl ?_
          first | refine XR_a (op_addN (n := 2) rfl rfl (by simp only [inK]; omega)) rfl rfl ?_ | refine XR_a (op_addI rfl rfl (by simp only [inK]; omega)) rfl rfl ?_ | refine XR_a (op_add rfl rfl) rfl rfl ?_
          refine XR_a (op_move rfl) rfl rfl ?_
          first | refine XR_a (op_addN rfl rfl (by simp only [inK]; omega)) rfl rfl ?_ | refine XR_a (op_addI rfl rfl (by simp only [inK]; omega)) rfl rfl ?_ | refine XR_a (op_add rfl rfl) rfl rfl ?_
          refine XR_a (op_assign rfl) rfl rfl ?_
          refine XR_nil ?_
          refine X_blk ?_
          have hE' : endF (m - (a + 2 + n) + 1) (l.drop (a + 2 + n)) (a + 2 + n) = R := by
            by_cases hle : a + 2 + n ≤ m
            · rw [← hstep hle (by omega)]; exact hE
            · rw [endF_short hl (by omega), ← hE, hlong (by omega)]
          exact X_again (a + 2 + n) (.cons rfl (.cons rfl (.nil _))) ⟨rfl, by omega, hE'⟩ (by omega)
      · refine X_exit rfl ?_
        refine X_seq ?_
        refine X_reg ?_
        refine XR_a (op_assign rfl) rfl rfl ?_
        refine XR_a (op_assign rfl) rfl rfl ?_
        refine XR_nil ?_
        refine X_ret (.cons (.tmp rfl) (.cons (.tmp rfl) .nil)) ?_
        rw [endF_short hl (by omega)] at hE
        subst hE
        exact ⟨rfl, rfl⟩
end Go.Bn
