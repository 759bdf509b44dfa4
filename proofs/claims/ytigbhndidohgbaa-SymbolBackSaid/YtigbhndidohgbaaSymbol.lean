/- The contracts of package symbol's functions, and of its reference's. -/
import Derived.Test.YtigbhndidohgbaaProg
import Derived.Test.YtigbhndidohgbaaPSymbol
import Derived.Test.YtigbhndidohgbaaEqF
set_option linter.unusedVariables false
set_option linter.unusedSimpArgs false
set_option maxHeartbeats 4000000
set_option maxRecDepth 20000
namespace Go.Bn
open Go Proofs

@[reducible] def clsV (c : Kls) : List Value := [.int .i64 c.num, .int .i64 c.bits, .int .u32 c.ext]
@[reducible] def tokV (t : Tok) : List Value := [.int .u8 t.byte, .int .i64 t.len, .int .i64 t.dist]
@[reducible] def syV (r : Sy) : List Value := [.int .i64 r.a.num, .int .i64 r.a.bits, .int .u32 r.a.ext, .int .i64 r.b.num, .int .i64 r.b.bits, .int .u32 r.b.ext, .bool r.m]
theorem clsV_one (d : Kls) : ∀ u ∈ clsV d, Value.one u = true := by
  intro u hu; simp [clsV] at hu; rcases hu with rfl | rfl | rfl <;> rfl
theorem tokV_one (d : Tok) : ∀ u ∈ tokV d, Value.one u = true := by
  intro u hu; simp [tokV] at hu; rcases hu with rfl | rfl | rfl <;> rfl
theorem syV_one (d : Sy) : ∀ u ∈ syV d, Value.one u = true := by
  intro u hu; simp [syV] at hu; rcases hu with rfl | rfl | rfl | rfl | rfl | rfl | rfl <;> rfl
theorem eqL_cls (a b : Kls) : eqL (clsV a) (clsV b) = decide (a = b) := by
  cases a; cases b; rw [Bool.eq_iff_iff]; simp [eqL, eqv]
theorem eqL_tok (a b : Tok) : eqL (tokV a) (tokV b) = decide (a = b) := by
  cases a; cases b; rw [Bool.eq_iff_iff]; simp [eqL, eqv]
theorem eqL_sy (a b : Sy) : eqL (syV a) (syV b) = decide (a = b) := by
  obtain ⟨⟨_, _, _⟩, ⟨_, _, _⟩, _⟩ := a
  obtain ⟨⟨_, _, _⟩, ⟨_, _, _⟩, _⟩ := b
  rw [Bool.eq_iff_iff]; simp [eqL, eqv, and_assoc]

def lenTab : List UInt8 := (List.range 256).map fun i => UInt8.ofNat (lenN i)
theorem lenTab_get {i : Nat} (h : i < 256) : (ByteArray.mk lenTab.toArray)[i]? = some (UInt8.ofNat (lenN i)) := by
  have hs : (ByteArray.mk lenTab.toArray).size = 256 := by simp [ByteArray.size, lenTab]
  have : (ByteArray.mk lenTab.toArray)[i]? = lenTab[i]? := by
    rw [getElem?_pos _ i (by rw [hs]; exact h)]
    rw [List.getElem?_eq_getElem (by simp [lenTab]; omega)]
    rfl
  rw [this]
  simp [lenTab, h]
theorem lenN_lt {v k : Nat} (h : v < 2 ^ k) : lenN v ≤ k := by
  unfold lenN
  split
  · omega
  · rename_i h0; have := (Nat.log2_lt h0).2 h; omega
theorem len_shift {v : Nat} (h : 256 ≤ v) : 8 + lenN (v / 256) = lenN v := by
  have h1 : v / 256 ≠ 0 := by omega
  have h2 : v ≠ 0 := by omega
  unfold lenN
  rw [if_neg h1, if_neg h2]
  have e : Nat.log2 (v / 256) + 8 = Nat.log2 v := by
    apply Eq.symm
    rw [Nat.log2_eq_iff h2]
    have a1 := Nat.log2_self_le h1
    have a2 : v / 256 < 2 ^ (Nat.log2 (v / 256) + 1) := Nat.lt_log2_self
    have p1 : 2 ^ (Nat.log2 (v / 256) + 8) = 2 ^ Nat.log2 (v / 256) * 256 := Nat.pow_add _ _ 8
    have p2 : 2 ^ (Nat.log2 (v / 256) + 8 + 1) = 2 ^ (Nat.log2 (v / 256) + 1) * 256 := by
      rw [show Nat.log2 (v / 256) + 8 + 1 = (Nat.log2 (v / 256) + 1) + 8 by omega]; exact Nat.pow_add _ _ 8
    rw [p1, p2]
    constructor <;> omega
  omega

theorem len64_spec {v : Nat} (hv : v < 65536) (h0 : Heap) : Ret Try.prog 78 [.int .u64 (v : Int)] h0 fun r h' => r = .int .i64 (lenN v : Nat) ∧ h0 = h' := by
  refine ret_of_X Try.func78 rfl rfl fun w0 hw0 => ?_
  simp only [argE, Nat.zero_add, Nat.reduceAdd]
  refine X_seq ?_
  refine X_reg ?_
  refine XR_a (op_assign rfl) rfl rfl ?_
  refine XR_nil ?_
  refine X_seq ?_
  refine X_seq ?_
  refine X_reg ?_
  refine XR_a (op_move rfl) rfl rfl ?_
  refine XR_a (op_geq rfl rfl) rfl rfl ?_
  refine XR_as (.bool false) (congrArg Value.bool (decide_eq_false (by omega))) ?_
  refine XR_nil ?_
  refine X_else rfl ?_
  refine X_skip ?_
  refine X_seq ?_
  refine X_seq ?_
  refine X_reg ?_
  refine XR_a (op_move rfl) rfl rfl ?_
  refine XR_a (op_geq rfl rfl) rfl rfl ?_
  refine XR_as (.bool false) (congrArg Value.bool (decide_eq_false (by omega))) ?_
  refine XR_nil ?_
  refine X_else rfl ?_
  refine X_skip ?_
  refine X_seq ?_
  refine X_seq ?_
  refine X_reg ?_
  refine XR_a (op_move rfl) rfl rfl ?_
  refine XR_a (op_geq rfl rfl) rfl rfl ?_
  refine XR_nil ?_
  refine X_if rfl (fun h => ?_) (fun h => ?_)
  · refine X_seq ?_
    refine X_reg ?_
    refine XR_a (op_move rfl) rfl rfl ?_
    first | refine XR_a (op_shrC 8 rfl rfl (by decide)) rfl rfl ?_ | refine XR_a (op_shrN 8 rfl rfl (by decide)) rfl rfl ?_
    refine XR_a (op_assign rfl) rfl rfl ?_
    refine XR_nil ?_
    refine X_reg ?_
    refine XR_a (op_move rfl) rfl rfl ?_
    first | refine XR_a (op_addN (n := 8) rfl rfl (by simp only [inK]; omega)) rfl rfl ?_ | refine XR_a (op_addI rfl rfl (by simp only [inK]; omega)) rfl rfl ?_ | refine XR_a (op_add rfl rfl) rfl rfl ?_
    refine XR_a (op_assign rfl) rfl rfl ?_
    refine XR_nil ?_
    refine X_seq ?_
    refine X_reg ?_
    refine XR_a (op_move rfl) rfl rfl ?_
    refine XR_a (op_move rfl) rfl rfl ?_
    first | refine XR_a (op_convI rfl rfl (by simp only [inK]; omega)) rfl rfl ?_ | refine XR_a (op_convU rfl rfl rfl) rfl rfl ?_ | refine XR_a (op_conv rfl rfl) rfl rfl ?_
    have hi : v / 2 ^ 8 < 256 := by omega
    have hl := lenN_lt (v := v / 2 ^ 8) (k := 8) hi
    have hs := len_shift (v := v) (by omega)
    rw [show (256 : Nat) = 2 ^ 8 from rfl] at hs
    generalize v / 2 ^ 8 = u at *
    refine XR_a (op_indexS (s := ByteArray.mk lenTab.toArray) (i := u) (by kernel_rfl) rfl rfl (lenTab_get hi)) rfl rfl ?_
    rw [show (UInt8.ofNat (lenN u)).toNat = lenN u by simp; omega]
    first | refine XR_a (op_convI rfl rfl (by simp only [inK]; omega)) rfl rfl ?_ | refine XR_a (op_conv rfl rfl) rfl rfl ?_
    refine XR_a (op_addN (m := 8) (n := lenN u) rfl rfl (by simp only [inK]; omega)) rfl rfl ?_
    rw [hs]
    refine XR_a (op_assign rfl) rfl rfl ?_
    refine XR_nil ?_
    refine X_ret (.cons (.tmp rfl) .nil) ?_
    exact ⟨rfl, rfl⟩
  · refine X_skip ?_
    refine X_seq ?_
    refine X_reg ?_
    refine XR_a (op_move rfl) rfl rfl ?_
    refine XR_a (op_move rfl) rfl rfl ?_
    first | refine XR_a (op_convI rfl rfl (by simp only [inK]; omega)) rfl rfl ?_ | refine XR_a (op_convU rfl rfl rfl) rfl rfl ?_ | refine XR_a (op_conv rfl rfl) rfl rfl ?_
    have hl := lenN_lt (v := v) (k := 8) (by omega)
    refine XR_a (op_indexS (s := ByteArray.mk lenTab.toArray) (i := v) (by kernel_rfl) rfl rfl (lenTab_get (by omega))) rfl rfl ?_
    rw [show (UInt8.ofNat (lenN v)).toNat = lenN v by simp; omega]
    first | refine XR_a (op_convI rfl rfl (by simp only [inK]; omega)) rfl rfl ?_ | refine XR_a (op_conv rfl rfl) rfl rfl ?_
    refine XR_a (op_addN (m := 0) (n := lenN v) rfl rfl (by simp only [inK]; omega)) rfl rfl ?_
    refine XR_as (.int .i64 (lenN v : Nat)) (by rw [Nat.zero_add]) ?_
    refine XR_a (op_assign rfl) rfl rfl ?_
    refine XR_nil ?_
    refine X_ret (.cons (.tmp rfl) .nil) ?_
    exact ⟨rfl, rfl⟩

theorem blen_spec {v : Nat} (hv : v < 65536) (h0 : Heap) : Ret Try.prog 56 [.int .u64 (v : Int)] h0 fun r h' => r = .int .i64 (lenN v : Nat) ∧ h0 = h' := by
  refine ret_of_X Try.func56 rfl rfl fun w0 hw0 => ?_
  simp only [argE, Nat.zero_add, Nat.reduceAdd]
  refine X_seq ?_
  refine X_reg ?_
  refine XR_a (op_assign rfl) rfl rfl ?_
  refine XR_nil ?_
  refine X_seq ?_
  refine X_else rfl ?_
  refine X_skip ?_
  refine X_seq ?_
  refine X_reg ?_
  refine XR_a (op_move rfl) rfl rfl ?_
  refine XR_wa (opl_call (len64_spec hv _) rfl (by kernel_rfl)) rfl rfl rfl ?_
  rintro _ _ ⟨rfl, rfl⟩
  refine XR_a (op_assign rfl) rfl rfl ?_
  refine XR_nil ?_
  refine X_ret (.cons (.tmp rfl) .nil) ?_
  exact ⟨rfl, rfl⟩

theorem sof_spec {v : Int} (h0 : Heap) : Ret Try.prog 16 [.int .i64 v] h0 fun r h' => r = retVal [.agg (clsV (ofC v).1).toArray, .bool (ofC v).2] ∧ Ext h0 h' := by
  refine ret_of_X Try.func16 rfl rfl fun w0 hw0 => ?_
  simp only [argE, Nat.zero_add, Nat.reduceAdd]
  have st := St.start h0
  refine X_seq ?_
  refine X_reg ?_
  refine XR_wa (opl_new rfl) rfl rfl rfl ?_
  rintro _ hp ⟨pp1, rfl, hnew⟩
  replace st := st.new hnew
  refine XR_a (op_assign rfl) rfl rfl ?_
  refine XR_nil ?_
  refine X_seq ?_
  refine X_block ?_
  refine X_seq ?_
  refine X_reg ?_
  refine XR_a (op_move rfl) rfl rfl ?_
  refine XR_a (op_lss rfl rfl) rfl rfl ?_
  refine XR_a (op_move rfl) rfl rfl ?_
  refine XR_if 8 rfl (fun h => ?_) (fun h => ?_)
  · refine XR_no rfl rfl ?_
    refine XR_no rfl rfl ?_
    refine XR_a (op_pick_t rfl rfl) rfl rfl ?_
    refine XR_a (op_assign rfl) rfl rfl ?_
    refine XR_nil ?_
    refine X_then rfl ?_
    refine X_seq ?_
    refine X_reg ?_
    refine XR_a (op_build (ps := []) (cs := (clsV Kls.nil).toArray) rfl rfl) rfl rfl ?_
    refine XR_wn (opl_store_whole (us := clsV Kls.nil) st 0 rfl rfl rfl rfl rfl (clsV_one _) rfl) rfl rfl fun _ hp st => ?_
    simp only [List.set_cons_zero, List.set_cons_succ] at st
    refine XR_a (op_assign rfl) rfl rfl ?_
    refine XR_nil ?_
    refine X_ret (.cons (RV_agg (vs := clsV Kls.nil) rfl rfl rfl (st.cells 0 rfl)) (.cons (.tmp rfl) .nil)) ?_
    have e : ofC v = (Kls.nil, false) := by unfold ofC; rw [if_pos (by omega)]
    rw [e]
    exact ⟨rfl, st.low⟩
  · refine XR_a (op_move rfl) rfl rfl ?_
    refine XR_a (op_gtr rfl rfl) rfl rfl ?_
    refine XR_a (op_pick_f rfl rfl) rfl rfl ?_
    refine XR_a (op_assign rfl) rfl rfl ?_
    refine XR_nil ?_
    refine X_if rfl (fun h => ?_) (fun h => ?_)
    · refine X_seq ?_
      refine X_reg ?_
      refine XR_a (op_build (ps := []) (cs := (clsV Kls.nil).toArray) rfl rfl) rfl rfl ?_
      refine XR_wn (opl_store_whole (us := clsV Kls.nil) st 0 rfl rfl rfl rfl rfl (clsV_one _) rfl) rfl rfl fun _ hp st => ?_
      simp only [List.set_cons_zero, List.set_cons_succ] at st
      refine XR_a (op_assign rfl) rfl rfl ?_
      refine XR_nil ?_
      refine X_ret (.cons (RV_agg (vs := clsV Kls.nil) rfl rfl rfl (st.cells 0 rfl)) (.cons (.tmp rfl) .nil)) ?_
      have e : ofC v = (Kls.nil, false) := by unfold ofC; rw [if_pos (by omega)]
      rw [e]
      exact ⟨rfl, st.low⟩
    · refine X_seq ?_
      refine X_reg ?_
      refine XR_a (op_move rfl) rfl rfl ?_
      refine XR_a (op_lss rfl rfl) rfl rfl ?_
      refine XR_a (op_assign rfl) rfl rfl ?_
      refine XR_nil ?_
      refine X_if rfl (fun h => ?_) (fun h => ?_)
      · obtain ⟨x, rfl⟩ : ∃ x : Nat, v = x := ⟨v.toNat, by omega⟩
        have e : ofC (x : Int) = (⟨x, 0, 0⟩, true) := by
          unfold ofC; rw [if_neg (by omega), Int.toNat_natCast, klsOf_small (by omega)]
        rw [e]
        refine X_seq ?_
        refine X_reg ?_
        refine XR_a (op_move rfl) rfl rfl ?_
        refine XR_a (op_build (ps := [(0, .int .i64 (x : Int))]) (cs := (clsV ⟨x, 0, 0⟩).toArray) rfl rfl) rfl rfl ?_
        refine XR_wn (opl_store_whole (us := clsV ⟨x, 0, 0⟩) st 0 rfl rfl rfl rfl rfl (clsV_one _) rfl) rfl rfl fun _ hp st => ?_
        simp only [List.set_cons_zero, List.set_cons_succ] at st
        refine XR_a (op_assign rfl) rfl rfl ?_
        refine XR_nil ?_
        refine X_ret (.cons (RV_agg (vs := clsV ⟨x, 0, 0⟩) rfl rfl rfl (st.cells 0 rfl)) (.cons (.tmp rfl) .nil)) ?_
        exact ⟨rfl, st.low⟩
      · obtain ⟨x, rfl⟩ : ∃ x : Nat, v = x := ⟨v.toNat, by omega⟩
        obtain ⟨n, q, hn, hn1, hq, hv, hc, hb, hbase, hsum⟩ := kls_spec (v := x) (by omega)
        have e : ofC (x : Int) = (⟨((2 * n + q : Nat) : Int), n, ((x % 2 ^ n : Nat) : Int)⟩, true) := by
          unfold ofC; rw [if_neg (by omega), Int.toNat_natCast, klsOf_big hc hb hbase hsum]
        rw [e]
        have hp2 : 2 * 2 ^ n ≤ x := by
          rcases hq with rfl | rfl <;> omega
        have hp0 := two_lt n
        have hn14 : n ≤ 14 := by
          have : 2 ^ n < 2 ^ 15 := by omega
          have := (Nat.pow_lt_pow_iff_right (by omega : 1 < 2)).1 this
          omega
        have hxm := Nat.mod_lt x hp0
        refine X_skip ?_
        refine X_blk ?_
        refine X_seq ?_
        refine X_reg ?_
        refine XR_a (op_move rfl) rfl rfl ?_
        first | refine XR_a (op_convI rfl rfl (by simp only [inK]; omega)) rfl rfl ?_ | refine XR_a (op_convU rfl rfl rfl) rfl rfl ?_ | refine XR_a (op_conv rfl rfl) rfl rfl ?_
        refine XR_wa (opl_call (blen_spec (v := x) (by omega) _) rfl (by kernel_rfl)) rfl rfl rfl ?_
        rintro _ _ ⟨rfl, rfl⟩
        rw [hn]
        refine XR_a (op_subN (m := n + 2) (n := 2) rfl rfl (by omega) (by simp only [inK]; omega)) rfl rfl ?_
        rw [Nat.add_sub_cancel]
        refine XR_a (op_assign rfl) rfl rfl ?_
        refine XR_nil ?_
        refine X_seq ?_
        refine X_draw byKind (by kernel_rfl) (by kernel_rfl) ?_
        refine XR_a (op_move rfl) rfl rfl ?_
        first | refine XR_a (op_mulN (m := 2) rfl rfl (by simp only [inK]; omega)) rfl rfl ?_ | refine XR_a (op_mulI rfl rfl (by simp only [inK]; omega)) rfl rfl ?_ | refine XR_a (op_mul rfl rfl) rfl rfl ?_
        refine XR_a (op_move rfl) rfl rfl ?_
        refine XR_a (op_move rfl) rfl rfl ?_
        refine XR_a (op_shrC (m := x) n rfl rfl (by simp only [IntKind.bits]; omega)) rfl rfl ?_
        rw [hv]
        first | refine XR_a (op_addN rfl rfl (by simp only [inK]; omega)) rfl rfl ?_ | refine XR_a (op_addI rfl rfl (by simp only [inK]; omega)) rfl rfl ?_ | refine XR_a (op_add rfl rfl) rfl rfl ?_
        refine XR_a (op_move rfl) rfl rfl ?_
        refine XR_a (op_move rfl) rfl rfl ?_
        refine XR_a (op_move rfl) rfl rfl ?_
        refine XR_a (op_shlC (m := 1) n rfl rfl (by simp only [IntKind.bits]; omega) (by simp only [inK]; omega)) rfl rfl ?_
        rw [Nat.one_mul]
        refine XR_a (op_subN (m := 2 ^ n) (n := 1) rfl rfl (by omega) (by simp only [inK]; omega)) rfl rfl ?_
        refine XR_a (op_andS (m := x) (n := 2 ^ n - 1) rfl rfl (by simp only [inK]; omega) (by simp only [inK]; omega)) rfl rfl ?_
        rw [Nat.and_two_pow_sub_one_eq_mod]
        generalize x % 2 ^ n = y at *
        first | refine XR_a (op_convI rfl rfl (by simp only [inK]; omega)) rfl rfl ?_ | refine XR_a (op_convU rfl rfl rfl) rfl rfl ?_ | refine XR_a (op_conv rfl rfl) rfl rfl ?_
        refine XR_a (op_build (ps := [(0, .int .i64 ((2 * n + q : Nat) : Int)), (1, .int .i64 (n : Int)), (2, .int .u32 (y : Int))]) (cs := (clsV ⟨((2 * n + q : Nat) : Int), n, (y : Int)⟩).toArray) rfl rfl) rfl rfl ?_
        refine XR_wn (opl_store_whole (us := clsV ⟨((2 * n + q : Nat) : Int), n, (y : Int)⟩) st 0 rfl rfl rfl rfl rfl (clsV_one _) rfl) rfl rfl fun _ hp st => ?_
        simp only [List.set_cons_zero, List.set_cons_succ] at st
        refine XR_a (op_assign rfl) rfl rfl ?_
        refine XR_nil ?_
        refine X_ret (.cons (RV_agg (vs := clsV ⟨((2 * n + q : Nat) : Int), n, (y : Int)⟩) rfl rfl rfl (st.cells 0 rfl)) (.cons (.tmp rfl) .nil)) ?_
        exact ⟨rfl, st.low⟩

/-- The least number of a class, how many bits are behind it, and whether there is one. -/
def baseP (i : Int) : Int × Int × Bool := if i < 0 ∨ 30 ≤ i then (0, 0, false) else (baseC i.toNat, bitsC i.toNat, true)
theorem bits14 {i : Nat} (h : i < 30) : bitsC i ≤ 13 := by unfold bitsC; split <;> omega
theorem pow13 {k : Nat} (h : k ≤ 13) : 2 ^ k ≤ 8192 := Nat.pow_le_pow_right (by omega) h

theorem sbase_spec (v : Int) (h0 : Heap) : Ret Try.prog 17 [.int .i64 v] h0 fun r h' => r = retVal [.int .i64 (baseP v).1, .int .i64 (baseP v).2.1, .bool (baseP v).2.2] ∧ h0 = h' := by
  refine ret_of_X Try.func17 rfl rfl fun w0 hw0 => ?_
  simp only [argE, Nat.zero_add, Nat.reduceAdd]
  refine X_seq ?_
  refine X_reg ?_
  refine XR_a (op_assign rfl) rfl rfl ?_
  refine XR_a (op_assign rfl) rfl rfl ?_
  refine XR_a (op_assign rfl) rfl rfl ?_
  refine XR_nil ?_
  refine X_seq ?_
  refine X_block ?_
  refine X_seq ?_
  refine X_reg ?_
  refine XR_a (op_move rfl) rfl rfl ?_
  refine XR_a (op_lss rfl rfl) rfl rfl ?_
  refine XR_a (op_move rfl) rfl rfl ?_
  refine XR_if 9 rfl (fun h => ?_) (fun h => ?_)
  · refine XR_no rfl rfl ?_
    refine XR_no rfl rfl ?_
    refine XR_a (op_pick_t rfl rfl) rfl rfl ?_
    refine XR_a (op_assign rfl) rfl rfl ?_
    refine XR_nil ?_
    refine X_then rfl ?_
    refine X_seq ?_
    refine X_reg ?_
    refine XR_a (op_assign rfl) rfl rfl ?_
    refine XR_a (op_assign rfl) rfl rfl ?_
    refine XR_a (op_assign rfl) rfl rfl ?_
    refine XR_nil ?_
    refine X_ret (.cons (.tmp rfl) (.cons (.tmp rfl) (.cons (.tmp rfl) .nil))) ?_
    have e : baseP v = (0, 0, false) := by unfold baseP; rw [if_pos (by omega)]
    rw [e]
    exact ⟨rfl, rfl⟩
  · refine XR_a (op_move rfl) rfl rfl ?_
    refine XR_a (op_geq rfl rfl) rfl rfl ?_
    refine XR_a (op_pick_f rfl rfl) rfl rfl ?_
    refine XR_a (op_assign rfl) rfl rfl ?_
    refine XR_nil ?_
    refine X_if rfl (fun h => ?_) (fun h => ?_)
    · refine X_seq ?_
      refine X_reg ?_
      refine XR_a (op_assign rfl) rfl rfl ?_
      refine XR_a (op_assign rfl) rfl rfl ?_
      refine XR_a (op_assign rfl) rfl rfl ?_
      refine XR_nil ?_
      refine X_ret (.cons (.tmp rfl) (.cons (.tmp rfl) (.cons (.tmp rfl) .nil))) ?_
      have e : baseP v = (0, 0, false) := by unfold baseP; rw [if_pos (by omega)]
      rw [e]
      exact ⟨rfl, rfl⟩
    · refine X_seq ?_
      refine X_reg ?_
      refine XR_a (op_move rfl) rfl rfl ?_
      refine XR_a (op_lss rfl rfl) rfl rfl ?_
      refine XR_a (op_assign rfl) rfl rfl ?_
      refine XR_nil ?_
      refine X_if rfl (fun h => ?_) (fun h => ?_)
      · obtain ⟨x, rfl⟩ : ∃ x : Nat, v = x := ⟨v.toNat, by omega⟩
        have e : baseP (x : Int) = ((x : Int), 0, true) := by
          unfold baseP; rw [if_neg (by omega), Int.toNat_natCast, baseC_small _ (by omega)]
          unfold bitsC; rw [if_pos (by omega)]; rfl
        rw [e]
        refine X_seq ?_
        refine X_reg ?_
        refine XR_a (op_move rfl) rfl rfl ?_
        refine XR_a (op_assign rfl) rfl rfl ?_
        refine XR_a (op_assign rfl) rfl rfl ?_
        refine XR_a (op_assign rfl) rfl rfl ?_
        refine XR_nil ?_
        refine X_ret (.cons (.tmp rfl) (.cons (.tmp rfl) (.cons (.tmp rfl) .nil))) ?_
        exact ⟨rfl, rfl⟩
      · obtain ⟨x, rfl⟩ : ∃ x : Nat, v = x := ⟨v.toNat, by omega⟩
        have e : baseP (x : Int) = ((((2 + x % 2) * 2 ^ (x / 2 - 1) : Nat) : Int), ((x / 2 - 1 : Nat) : Int), true) := by
          unfold baseP; rw [if_neg (by omega), Int.toNat_natCast, baseC_form _ (by omega)]
          unfold bitsC; rw [if_neg (by omega)]
        rw [e]
        have hk : x / 2 - 1 ≤ 13 := by omega
        have hp := pow13 hk
        refine X_skip ?_
        refine X_blk ?_
        refine X_seq ?_
        refine X_reg ?_
        refine XR_a (op_move rfl) rfl rfl ?_
        first | refine XR_a (op_quoN (n := 2) rfl rfl (by omega) (by simp only [inK]; omega)) rfl rfl ?_ | refine XR_a (op_quoI rfl rfl (by omega) (by omega) (by simp only [inK]; omega)) rfl rfl ?_ | refine XR_a (op_quo rfl rfl (by omega)) rfl rfl ?_
        refine XR_a (op_subN (m := x / 2) (n := 1) rfl rfl (by omega) (by simp only [inK]; omega)) rfl rfl ?_
        have hx2 : 2 + x % 2 ≤ 3 := by omega
        generalize x / 2 - 1 = k at *
        refine XR_a (op_assign rfl) rfl rfl ?_
        refine XR_nil ?_
        refine X_seq ?_
        refine X_reg ?_
        refine XR_a (op_move rfl) rfl rfl ?_
        first | refine XR_a (op_remN (n := 2) rfl rfl (by omega)) rfl rfl ?_ | refine XR_a (op_remI rfl rfl (by omega) (by omega)) rfl rfl ?_ | refine XR_a (op_rem rfl rfl (by omega)) rfl rfl ?_
        first | refine XR_a (op_addN (m := 2) rfl rfl (by simp only [inK]; omega)) rfl rfl ?_ | refine XR_a (op_addI rfl rfl (by simp only [inK]; omega)) rfl rfl ?_ | refine XR_a (op_add rfl rfl) rfl rfl ?_
        refine XR_a (op_move rfl) rfl rfl ?_
        have hb : (2 + x % 2) * 2 ^ k ≤ 3 * 8192 := Nat.mul_le_mul hx2 hp
        refine XR_a (op_shlC (m := 2 + x % 2) k rfl rfl (by simp only [IntKind.bits]; omega) (by simp only [inK]; omega)) rfl rfl ?_
        refine XR_a (op_move rfl) rfl rfl ?_
        refine XR_a (op_assign rfl) rfl rfl ?_
        refine XR_a (op_assign rfl) rfl rfl ?_
        refine XR_a (op_assign rfl) rfl rfl ?_
        refine XR_nil ?_
        refine X_ret (.cons (.tmp rfl) (.cons (.tmp rfl) (.cons (.tmp rfl) .nil))) ?_
        exact ⟨rfl, rfl⟩

theorem sbase_yes {v : Int} {i : Nat} (hi : v = i) (h : i < 30) (h0 : Heap) : Ret Try.prog 17 [.int .i64 v] h0 fun r h' => r = retVal [.int .i64 (baseC i : Nat), .int .i64 (bitsC i : Nat), .bool true] ∧ h0 = h' := by
  have e := sbase_spec v h0
  rw [show baseP v = ((baseC i : Int), (bitsC i : Int), true) by unfold baseP; rw [if_neg (by omega), hi, Int.toNat_natCast]] at e
  exact e
theorem sbase_no {v : Int} (h : v < 0 ∨ 30 ≤ v) (h0 : Heap) : Ret Try.prog 17 [.int .i64 v] h0 fun r h' => r = retVal [.int .i64 0, .int .i64 0, .bool false] ∧ h0 = h' := by
  have e := sbase_spec v h0
  rw [show baseP v = (0, 0, false) by unfold baseP; rw [if_pos h]] at e
  exact e
/-- The number of a class, and whether there is one. -/
def valP (c : Kls) : Int × Bool := match valC c with
  | some v => ((v : Int), true)
  | none => (0, false)
theorem valP_some {c : Kls} {v : Nat} (h : valC c = some v) : valP c = ((v : Int), true) := by unfold valP; rw [h]
theorem valP_none {c : Kls} (h : valC c = none) : valP c = (0, false) := by unfold valP; rw [h]
theorem valC_none1 {c : Kls} (h : c.num < 0 ∨ 30 ≤ c.num) : valC c = none := by unfold valC; rw [if_pos h]
theorem valC_none2 {c : Kls} {i : Nat} (hi : c.num = i) (h : c.bits ≠ bitsC i) : valC c = none := by
  unfold valC
  split
  · rfl
  · rw [if_pos (by rw [hi]; exact h)]
theorem valC_none3 {c : Kls} {i e : Nat} (hi : c.num = i) (he : c.ext = e) (h : 2 ^ bitsC i ≤ e) : valC c = none := by
  unfold valC
  split
  · rfl
  · split
    · rfl
    · have hp : ((2 ^ bitsC i : Nat) : Int) = (2 : Int) ^ bitsC i := by rw [Int.natCast_pow]; rfl
      rw [if_pos (by rw [hi, he, Int.toNat_natCast, ← hp]; omega)]
theorem valC_yes {c : Kls} {i e : Nat} (hi : c.num = i) (h30 : i < 30) (hb : c.bits = bitsC i) (he : c.ext = e) (h : e < 2 ^ bitsC i) : valC c = some (baseC i + e) := by
  have hp : ((2 ^ bitsC i : Nat) : Int) = (2 : Int) ^ bitsC i := by rw [Int.natCast_pow]; rfl
  unfold valC
  rw [if_neg (by omega), hi, Int.toNat_natCast, if_neg (by rw [hb]; simp), if_neg (by rw [he, ← hp]; omega), he, Int.toNat_natCast]
theorem base30 {i : Nat} (h : i < 30) : baseC i + 2 ^ bitsC i ≤ 32768 := by
  have := baseC_mono (show i + 1 ≤ 30 by omega)
  rw [baseC, show baseC 30 = 32768 by decide] at this
  exact this

theorem sval_spec {c : Kls} (hx : 0 ≤ c.ext ∧ c.ext < 4294967296) (h0 : Heap) : Ret Try.prog 18 [.agg #[.int .i64 c.num, .int .i64 c.bits, .int .u32 c.ext]] h0 fun r h' => r = retVal [.int .i64 (valP c).1, .bool (valP c).2] ∧ Ext h0 h' := by
  refine ret_of_X Try.func18 rfl rfl fun w0 hw0 => ?_
  simp only [argE, Nat.zero_add, Nat.reduceAdd]
  have st := St.start h0
  refine X_seq ?_
  refine X_reg ?_
  refine XR_wa (opl_bx rfl rfl) rfl rfl rfl ?_
  rintro _ hp ⟨p, rfl, hnew⟩
  have st := st.new hnew
  refine XR_a (op_assign rfl) rfl rfl ?_
  refine XR_a (op_assign rfl) rfl rfl ?_
  refine XR_nil ?_
  refine X_seq ?_
  refine X_reg ?_
  first | refine XR_a (op_field0 rfl rfl) rfl rfl ?_ | refine XR_a (op_fieldn rfl rfl) rfl rfl ?_
  by_cases hr : c.num < 0 ∨ 30 ≤ c.num
  · refine XR_a (op_ld (by first | assumption | exact st.cell 0 rfl rfl | exact st.cell 1 rfl rfl | exact st.cell 2 rfl rfl | exact st.cell 3 rfl rfl) rfl rfl rfl) rfl rfl ?_
    refine XR_wa (opl_call (sbase_no hr _) rfl (by kernel_rfl)) rfl rfl rfl ?_
    rintro _ _ ⟨rfl, rfl⟩
    refine XR_a (op_move rfl) rfl rfl ?_
    refine XR_a (op_extract rfl rfl) rfl rfl ?_
    refine XR_a (op_extract rfl rfl) rfl rfl ?_
    refine XR_a (op_extract rfl rfl) rfl rfl ?_
    refine XR_a (op_assign rfl) rfl rfl ?_
    refine XR_a (op_assign rfl) rfl rfl ?_
    refine XR_a (op_assign rfl) rfl rfl ?_
    refine XR_nil ?_
    refine X_seq ?_
    refine X_seq ?_
    refine X_reg ?_
    refine XR_a (op_move rfl) rfl rfl ?_
    first | refine XR_a (op_notd rfl) rfl rfl ?_ | refine XR_a (op_not rfl) rfl rfl ?_
    refine XR_a (op_move rfl) rfl rfl ?_
    refine XR_no rfl rfl ?_
    refine XR_no rfl rfl ?_
    refine XR_no rfl rfl ?_
    refine XR_no rfl rfl ?_
    refine XR_a (op_pick_t rfl rfl) rfl rfl ?_
    refine XR_a (op_move rfl) rfl rfl ?_
    refine XR_no rfl rfl ?_
    refine XR_no rfl rfl ?_
    refine XR_no rfl rfl ?_
    refine XR_no rfl rfl ?_
    refine XR_no rfl rfl ?_
    refine XR_a (op_pick_t rfl rfl) rfl rfl ?_
    refine XR_nil ?_
    refine X_then rfl ?_
    refine X_seq ?_
    refine X_reg ?_
    refine XR_a (op_assign rfl) rfl rfl ?_
    refine XR_a (op_assign rfl) rfl rfl ?_
    refine XR_nil ?_
    refine X_ret (.cons (.tmp rfl) (.cons (.tmp rfl) .nil)) ?_
    rw [valP_none (valC_none1 hr)]
    exact ⟨rfl, st.low⟩
  · obtain ⟨i, hi⟩ : ∃ i : Nat, c.num = i := ⟨c.num.toNat, by omega⟩
    obtain ⟨e, he⟩ : ∃ e : Nat, c.ext = e := ⟨c.ext.toNat, by omega⟩
    have h30 : i < 30 := by omega
    have hk := bits14 h30
    have hp := pow13 hk
    have hp0 := two_lt (bitsC i)
    have hbase := base30 h30
    refine XR_a (op_ld (by first | assumption | exact st.cell 0 rfl rfl | exact st.cell 1 rfl rfl | exact st.cell 2 rfl rfl | exact st.cell 3 rfl rfl) rfl rfl rfl) rfl rfl ?_
    refine XR_wa (opl_call (sbase_yes hi h30 _) rfl (by kernel_rfl)) rfl rfl rfl ?_
    rintro _ _ ⟨rfl, rfl⟩
    refine XR_a (op_move rfl) rfl rfl ?_
    refine XR_a (op_extract rfl rfl) rfl rfl ?_
    refine XR_a (op_extract rfl rfl) rfl rfl ?_
    refine XR_a (op_extract rfl rfl) rfl rfl ?_
    refine XR_a (op_assign rfl) rfl rfl ?_
    refine XR_a (op_assign rfl) rfl rfl ?_
    refine XR_a (op_assign rfl) rfl rfl ?_
    refine XR_nil ?_
    refine X_seq ?_
    refine X_seq ?_
    refine X_reg ?_
    refine XR_a (op_move rfl) rfl rfl ?_
    first | refine XR_a (op_notd rfl) rfl rfl ?_ | refine XR_a (op_not rfl) rfl rfl ?_
    refine XR_a (op_move rfl) rfl rfl ?_
    refine XR_a (op_move rfl) rfl rfl ?_
    first | refine XR_a (op_field0 rfl rfl) rfl rfl ?_ | refine XR_a (op_fieldn rfl rfl) rfl rfl ?_
    refine XR_a (op_ld (by first | assumption | exact st.cell 0 rfl rfl | exact st.cell 1 rfl rfl | exact st.cell 2 rfl rfl | exact st.cell 3 rfl rfl) rfl rfl rfl) rfl rfl ?_
    refine XR_a (op_neq rfl rfl) rfl rfl ?_
    refine XR_a (op_pick_f rfl rfl) rfl rfl ?_
    refine XR_a (op_move rfl) rfl rfl ?_
    refine XR_if 22 rfl (fun h => ?_) (fun h => ?_)
    · refine XR_no rfl rfl ?_
      refine XR_no rfl rfl ?_
      refine XR_no rfl rfl ?_
      refine XR_no rfl rfl ?_
      refine XR_no rfl rfl ?_
      refine XR_a (op_pick_t rfl rfl) rfl rfl ?_
      refine XR_nil ?_
      refine X_then rfl ?_
      refine X_seq ?_
      refine X_reg ?_
      refine XR_a (op_assign rfl) rfl rfl ?_
      refine XR_a (op_assign rfl) rfl rfl ?_
      refine XR_nil ?_
      refine X_ret (.cons (.tmp rfl) (.cons (.tmp rfl) .nil)) ?_
      rw [valP_none (valC_none2 hi (fun hh => h (by rw [hh])))]
      exact ⟨rfl, st.low⟩
    · first | refine XR_a (op_field0 rfl rfl) rfl rfl ?_ | refine XR_a (op_fieldn rfl rfl) rfl rfl ?_
      refine XR_a (op_ld (by first | assumption | exact st.cell 0 rfl rfl | exact st.cell 1 rfl rfl | exact st.cell 2 rfl rfl | exact st.cell 3 rfl rfl) rfl rfl rfl) rfl rfl ?_
      refine XR_a (op_move rfl) rfl rfl ?_
      rw [he]
      refine XR_a (op_shrA (m := e) (bitsC i) rfl rfl (by simp only [IntKind.bits]; omega)) rfl rfl ?_
      refine XR_a (op_neq rfl rfl) rfl rfl ?_
      refine XR_a (op_pick_f rfl rfl) rfl rfl ?_
      refine XR_nil ?_
      refine X_if rfl (fun h => ?_) (fun h => ?_)
      · have hge : 2 ^ bitsC i ≤ e := by
          rcases Nat.lt_or_ge e (2 ^ bitsC i) with hlt | hge
          · exact absurd (by rw [Nat.div_eq_of_lt hlt]; rfl) h
          · exact hge
        refine X_seq ?_
        refine X_reg ?_
        refine XR_a (op_assign rfl) rfl rfl ?_
        refine XR_a (op_assign rfl) rfl rfl ?_
        refine XR_nil ?_
        refine X_ret (.cons (.tmp rfl) (.cons (.tmp rfl) .nil)) ?_
        rw [valP_none (valC_none3 hi he hge)]
        exact ⟨rfl, st.low⟩
      · have hlt : e < 2 ^ bitsC i := by
          rcases Nat.lt_or_ge e (2 ^ bitsC i) with hlt | hge
          · exact hlt
          · have : 0 < e / 2 ^ bitsC i := Nat.div_pos hge hp0
            omega
        have hbb : c.bits = bitsC i := by omega
        rw [valP_some (valC_yes hi h30 hbb he hlt)]
        refine X_skip ?_
        refine X_seq ?_
        refine X_reg ?_
        refine XR_a (op_move rfl) rfl rfl ?_
        first | refine XR_a (op_field0 rfl rfl) rfl rfl ?_ | refine XR_a (op_fieldn rfl rfl) rfl rfl ?_
        refine XR_a (op_ld (st.cell 0 (i := 2) rfl rfl) rfl rfl rfl) rfl rfl ?_
        first | refine XR_a (op_convI rfl rfl (by simp only [inK]; omega)) rfl rfl ?_ | refine XR_a (op_conv rfl rfl) rfl rfl ?_
        refine XR_as (.int .i64 (e : Int)) (by rw [he]) ?_
        first | refine XR_a (op_addN rfl rfl (by simp only [inK]; omega)) rfl rfl ?_ | refine XR_a (op_addI rfl rfl (by simp only [inK]; omega)) rfl rfl ?_ | refine XR_a (op_add rfl rfl) rfl rfl ?_
        refine XR_a (op_assign rfl) rfl rfl ?_
        refine XR_a (op_assign rfl) rfl rfl ?_
        refine XR_nil ?_
        refine X_ret (.cons (.tmp rfl) (.cons (.tmp rfl) .nil)) ?_
        exact ⟨rfl, st.low⟩

theorem bits_ref {v : Int} (hv : v ≤ 1000) (h0 : Heap) : Ret Try.prog 23 [.int .i64 v] h0 fun r h' => r = .int .i64 (bitsC v.toNat : Nat) ∧ h0 = h' := by
  refine ret_of_X Try.func23 rfl rfl fun w0 hw0 => ?_
  simp only [argE, Nat.zero_add, Nat.reduceAdd]
  refine X_seq ?_
  refine X_reg ?_
  refine XR_a (op_assign rfl) rfl rfl ?_
  refine XR_nil ?_
  refine X_seq ?_
  refine X_seq ?_
  refine X_reg ?_
  refine XR_a (op_move rfl) rfl rfl ?_
  refine XR_a (op_lss rfl rfl) rfl rfl ?_
  refine XR_nil ?_
  refine X_if rfl (fun h => ?_) (fun h => ?_)
  · refine X_seq ?_
    refine X_reg ?_
    refine XR_a (op_assign rfl) rfl rfl ?_
    refine XR_nil ?_
    refine X_ret (.cons (.tmp rfl) .nil) ?_
    have e : bitsC v.toNat = 0 := by unfold bitsC; rw [if_pos (by omega)]
    rw [e]
    exact ⟨rfl, rfl⟩
  · obtain ⟨x, rfl⟩ : ∃ x : Nat, v = x := ⟨v.toNat, by omega⟩
    have e : bitsC x = x / 2 - 1 := by unfold bitsC; rw [if_neg (by omega)]
    rw [Int.toNat_natCast, e]
    refine X_skip ?_
    refine X_seq ?_
    refine X_reg ?_
    refine XR_a (op_move rfl) rfl rfl ?_
    first | refine XR_a (op_quoN (n := 2) rfl rfl (by omega) (by simp only [inK]; omega)) rfl rfl ?_ | refine XR_a (op_quoI rfl rfl (by omega) (by omega) (by simp only [inK]; omega)) rfl rfl ?_ | refine XR_a (op_quo rfl rfl (by omega)) rfl rfl ?_
    first | refine XR_a (op_subN (n := 1) rfl rfl (by omega) (by simp only [inK]; omega)) rfl rfl ?_ | refine XR_a (op_subI rfl rfl (by simp only [inK]; omega)) rfl rfl ?_ | refine XR_a (op_sub rfl rfl) rfl rfl ?_
    refine XR_a (op_assign rfl) rfl rfl ?_
    refine XR_nil ?_
    refine X_ret (.cons (.tmp rfl) .nil) ?_
    exact ⟨rfl, rfl⟩

theorem base_ref {n : Nat} (hn : n ≤ 30) (h0 : Heap) : Ret Try.prog 22 [.int .i64 (n : Int)] h0 fun r h' => r = .int .i64 (baseC n : Nat) ∧ h0 = h' := by
  refine ret_of_X Try.func22 rfl rfl fun w0 hw0 => ?_
  simp only [argE, Nat.zero_add, Nat.reduceAdd]
  refine X_seq ?_
  refine X_reg ?_
  refine XR_a (op_assign rfl) rfl rfl ?_
  refine XR_nil ?_
  refine X_seq ?_
  refine X_reg ?_
  refine XR_a (op_assign rfl) rfl rfl ?_
  refine XR_nil ?_
  refine X_seq ?_
  refine X_seq ?_
  refine X_reg ?_
  refine XR_a (op_assign rfl) rfl rfl ?_
  refine XR_nil ?_
  refine X_block ?_
  refine X_loop (fun i => n - i) (fun i => [(0, .int .i64 (n : Int)), (3, .int .i64 (baseC i : Nat)), (4, .int .i64 (i : Int))])
    (fun (i : Nat) hp => h0 = hp ∧ i ≤ n) 0 (.cons rfl (.cons rfl (.cons rfl (.nil _)))) ⟨rfl, by omega⟩ ?_
  rintro i hp ⟨rfl, hi⟩
  refine X_seq ?_
  refine X_seq ?_
  refine X_reg ?_
  refine XR_a (op_move rfl) rfl rfl ?_
  refine XR_a (op_move rfl) rfl rfl ?_
  refine XR_a (op_lss rfl rfl) rfl rfl ?_
  refine XR_nil ?_
  refine X_if rfl (fun h => ?_) (fun h => ?_)
  · have hin : i < n := by omega
    have h30 : i < 30 := by omega
    have hk := bits14 h30
    have hp13 := pow13 hk
    have hbase := base30 h30
    have hp0 := two_lt (bitsC i)
    refine X_skip ?_
    refine X_seq ?_
    refine X_block ?_
    refine X_seq ?_
    refine X_reg ?_
    refine XR_a (op_assign rfl) rfl rfl ?_
    refine XR_nil ?_
    refine X_seq ?_
    refine X_seq ?_
    refine X_reg ?_
    refine XR_a (op_assign rfl) rfl rfl ?_
    refine XR_nil ?_
    refine X_block ?_
    refine X_loop (fun k => bitsC i - k) (fun k => [(0, .int .i64 (n : Int)), (3, .int .i64 (baseC i : Nat)), (4, .int .i64 (i : Int)), (5, .int .i64 ((2 ^ k : Nat) : Int)), (6, .int .i64 (k : Int))])
      (fun (k : Nat) hp => h0 = hp ∧ k ≤ bitsC i) 0 (.cons rfl (.cons rfl (.cons rfl (.cons rfl (.cons rfl (.nil _)))))) ⟨rfl, by omega⟩ ?_
    rintro k hp ⟨rfl, hki⟩
    refine X_seq ?_
    refine X_seq ?_
    refine X_reg ?_
    refine XR_a (op_move rfl) rfl rfl ?_
    refine XR_a (op_move rfl) rfl rfl ?_
    refine XR_wa (opl_call (bits_ref (by omega) _) rfl (by kernel_rfl)) rfl rfl rfl ?_
    rintro _ _ ⟨rfl, rfl⟩
    rw [Int.toNat_natCast]
    refine XR_a (op_lss rfl rfl) rfl rfl ?_
    refine XR_nil ?_
    refine X_if rfl (fun h => ?_) (fun h => ?_)
    · have hk1 := pow13 (k := k) (by omega)
      refine X_skip ?_
      refine X_seq ?_
      refine X_block ?_
      refine X_reg ?_
      refine XR_a (op_move rfl) rfl rfl ?_
      refine XR_a (op_mulN (m := 2 ^ k) (n := 2) rfl rfl (by simp only [inK]; omega)) rfl rfl ?_
      refine XR_a (op_assign rfl) rfl rfl ?_
      refine XR_nil ?_
      refine X_blk ?_
      refine X_reg ?_
      refine XR_a (op_move rfl) rfl rfl ?_
      first | refine XR_a (op_addN (n := 1) rfl rfl (by simp only [inK]; omega)) rfl rfl ?_ | refine XR_a (op_addI rfl rfl (by simp only [inK]; omega)) rfl rfl ?_ | refine XR_a (op_add rfl rfl) rfl rfl ?_
      refine XR_a (op_assign rfl) rfl rfl ?_
      refine XR_nil ?_
      exact X_again (k + 1) (.cons rfl (.cons rfl (.cons rfl (.cons rfl (.cons rfl (.nil _)))))) ⟨rfl, by omega⟩ (by omega)
    · obtain rfl : k = bitsC i := by omega
      refine X_exit rfl ?_
      refine X_reg ?_
      refine XR_a (op_move rfl) rfl rfl ?_
      refine XR_a (op_move rfl) rfl rfl ?_
      first | refine XR_a (op_addN rfl rfl (by simp only [inK]; omega)) rfl rfl ?_ | refine XR_a (op_addI rfl rfl (by simp only [inK]; omega)) rfl rfl ?_ | refine XR_a (op_add rfl rfl) rfl rfl ?_
      refine XR_a (op_assign rfl) rfl rfl ?_
      refine XR_nil ?_
      refine X_blk ?_
      refine X_reg ?_
      refine XR_a (op_move rfl) rfl rfl ?_
      first | refine XR_a (op_addN (n := 1) rfl rfl (by simp only [inK]; omega)) rfl rfl ?_ | refine XR_a (op_addI rfl rfl (by simp only [inK]; omega)) rfl rfl ?_ | refine XR_a (op_add rfl rfl) rfl rfl ?_
      refine XR_a (op_assign rfl) rfl rfl ?_
      refine XR_nil ?_
      exact X_again (i + 1) (.cons rfl (.cons rfl (.cons rfl (.nil _)))) ⟨rfl, by omega⟩ (by omega)
  · obtain rfl : i = n := by omega
    refine X_exit rfl ?_
    refine X_seq ?_
    refine X_reg ?_
    refine XR_a (op_move rfl) rfl rfl ?_
    refine XR_a (op_assign rfl) rfl rfl ?_
    refine XR_nil ?_
    refine X_ret (.cons (.tmp rfl) .nil) ?_
    exact ⟨rfl, rfl⟩

theorem of_ref {v : Nat} (hv : v < 32768) (h0 : Heap) : Ret Try.prog 20 [.int .i64 (v : Int)] h0 fun r h' => r = .agg (clsV (klsOf v)).toArray ∧ Ext h0 h' := by
  refine ret_of_X Try.func20 rfl rfl fun w0 hw0 => ?_
  simp only [argE, Nat.zero_add, Nat.reduceAdd]
  have st := St.start h0
  refine X_seq ?_
  refine X_reg ?_
  refine XR_wa (opl_new rfl) rfl rfl rfl ?_
  rintro _ hp ⟨pp1, rfl, hnew⟩
  replace st := st.new hnew
  refine XR_nil ?_
  refine X_seq ?_
  refine X_reg ?_
  refine XR_a (op_assign rfl) rfl rfl ?_
  refine XR_nil ?_
  refine X_seq ?_
  refine X_seq ?_
  refine X_reg ?_
  refine XR_a (op_assign rfl) rfl rfl ?_
  refine XR_nil ?_
  refine X_block ?_
  refine X_loop (fun i => 30 - i) (fun i => [(0, .int .i64 (v : Int)), (2, .pointer (some ⟨pp1, 0, none⟩)), (3, .int .i64 (lastC v i : Nat)), (4, .int .i64 (i : Int))])
    (fun (i : Nat) hp => St h0.size h0 hp [pt pp1 32 (clsV Kls.nil)] ∧ i ≤ 30) 0 (.cons rfl (.cons rfl (.cons rfl (.cons rfl (.nil _))))) ⟨st, by omega⟩ ?_
  clear st hnew
  rintro i hp ⟨st, hi⟩
  refine X_seq ?_
  refine X_seq ?_
  refine X_reg ?_
  refine XR_a (op_move rfl) rfl rfl ?_
  refine XR_a (op_lss rfl rfl) rfl rfl ?_
  refine XR_nil ?_
  refine X_if rfl (fun h => ?_) (fun h => ?_)
  · refine X_skip ?_
    refine X_seq ?_
    refine X_block ?_
    refine X_seq ?_
    refine X_reg ?_
    refine XR_a (op_move rfl) rfl rfl ?_
    refine XR_wa (opl_call (base_ref (n := i) (by omega) _) rfl (by kernel_rfl)) rfl rfl rfl ?_
    rintro _ _ ⟨rfl, rfl⟩
    refine XR_a (op_move rfl) rfl rfl ?_
    refine XR_a (op_leq rfl rfl) rfl rfl ?_
    refine XR_nil ?_
    refine X_if rfl (fun h => ?_) (fun h => ?_)
    · refine X_reg ?_
      refine XR_a (op_move rfl) rfl rfl ?_
      refine XR_a (op_assign rfl) rfl rfl ?_
      refine XR_nil ?_
      refine X_blk ?_
      refine X_reg ?_
      refine XR_a (op_move rfl) rfl rfl ?_
      first | refine XR_a (op_addN (n := 1) rfl rfl (by simp only [inK]; omega)) rfl rfl ?_ | refine XR_a (op_addI rfl rfl (by simp only [inK]; omega)) rfl rfl ?_ | refine XR_a (op_add rfl rfl) rfl rfl ?_
      refine XR_a (op_assign rfl) rfl rfl ?_
      refine XR_nil ?_
      refine X_again (i + 1) (.cons rfl (.cons rfl (.cons (congrArg (fun x : Nat => some (Value.int .i64 (x : Int))) ?_) (.cons rfl (.nil _))))) ⟨st, by omega⟩ (by omega)
      show i = lastC v (i + 1)
      rw [lastC, if_pos (by omega)]
    · refine X_skip ?_
      refine X_blk ?_
      refine X_reg ?_
      refine XR_a (op_move rfl) rfl rfl ?_
      first | refine XR_a (op_addN (n := 1) rfl rfl (by simp only [inK]; omega)) rfl rfl ?_ | refine XR_a (op_addI rfl rfl (by simp only [inK]; omega)) rfl rfl ?_ | refine XR_a (op_add rfl rfl) rfl rfl ?_
      refine XR_a (op_assign rfl) rfl rfl ?_
      refine XR_nil ?_
      refine X_again (i + 1) (.cons rfl (.cons rfl (.cons (congrArg (fun x : Nat => some (Value.int .i64 (x : Int))) ?_) (.cons rfl (.nil _))))) ⟨st, by omega⟩ (by omega)
      show lastC v i = lastC v (i + 1)
      rw [lastC, if_neg (by omega)]
  · obtain rfl : i = 30 := by omega
    rw [lastC_kls hv]
    obtain ⟨g1, g2, g3⟩ := klsN_between v
    have g3 := g3 hv
    have hD : klsOf v = ⟨klsN v, bitsC (klsN v), ((v - baseC (klsN v) : Nat) : Int)⟩ := rfl
    refine X_exit rfl ?_
    refine X_seq ?_
    refine X_reg ?_
    refine XR_a (op_move rfl) rfl rfl ?_
    refine XR_a (op_move rfl) rfl rfl ?_
    refine XR_wa (opl_call (bits_ref (by omega) _) rfl (by kernel_rfl)) rfl rfl rfl ?_
    rintro _ _ ⟨rfl, rfl⟩
    rw [Int.toNat_natCast]
    refine XR_a (op_move rfl) rfl rfl ?_
    refine XR_a (op_move rfl) rfl rfl ?_
    refine XR_wa (opl_call (base_ref (n := klsN v) (by omega) _) rfl (by kernel_rfl)) rfl rfl rfl ?_
    rintro _ _ ⟨rfl, rfl⟩
    first | refine XR_a (op_subN rfl rfl (by omega) (by simp only [inK]; omega)) rfl rfl ?_ | refine XR_a (op_subI rfl rfl (by simp only [inK]; omega)) rfl rfl ?_ | refine XR_a (op_sub rfl rfl) rfl rfl ?_
    first | refine XR_a (op_convI rfl rfl (by simp only [inK]; omega)) rfl rfl ?_ | refine XR_a (op_convU rfl rfl rfl) rfl rfl ?_ | refine XR_a (op_conv rfl rfl) rfl rfl ?_
    refine XR_a (op_build (ps := [(0, .int .i64 (klsN v : Nat)), (1, .int .i64 (bitsC (klsN v) : Nat)), (2, .int .u32 ((v - baseC (klsN v) : Nat) : Int))]) (cs := (clsV (klsOf v)).toArray) rfl rfl) rfl rfl ?_
    generalize klsOf v = D at *
    refine XR_wn (opl_store_whole (us := clsV D) st 0 rfl rfl rfl rfl rfl (clsV_one _) rfl) rfl rfl fun _ hp st => ?_
    simp only [List.set_cons_zero, List.set_cons_succ] at st
    refine XR_nil ?_
    refine X_ret (.cons (RV_agg (vs := clsV D) rfl rfl rfl (st.cells 0 rfl)) .nil) ?_
    exact ⟨rfl, st.low⟩

theorem val_ref {c : Kls} (hx : 0 ≤ c.ext ∧ c.ext < 4294967296) (h0 : Heap) : Ret Try.prog 19 [.agg #[.int .i64 c.num, .int .i64 c.bits, .int .u32 c.ext]] h0 fun r h' => r = retVal [.int .i64 (valP c).1, .bool (valP c).2] ∧ Ext h0 h' := by
  refine ret_of_X Try.func19 rfl rfl fun w0 hw0 => ?_
  simp only [argE, Nat.zero_add, Nat.reduceAdd]
  have st := St.start h0
  refine X_seq ?_
  refine X_reg ?_
  refine XR_wa (opl_bx rfl rfl) rfl rfl rfl ?_
  rintro _ hp ⟨p, rfl, hnew⟩
  have st := st.new hnew
  refine XR_a (op_assign rfl) rfl rfl ?_
  refine XR_a (op_assign rfl) rfl rfl ?_
  refine XR_nil ?_
  refine X_seq ?_
  refine X_seq ?_
  refine X_draw (butAt [(13, .grow)]) (by kernel_rfl) (by kernel_rfl) ?_
  first | refine XR_a (op_field0 rfl rfl) rfl rfl ?_ | refine XR_a (op_fieldn rfl rfl) rfl rfl ?_
  refine XR_a (op_ld (st.cell 0 (i := 0) rfl rfl) rfl rfl rfl) rfl rfl ?_
  refine XR_a (op_lss rfl rfl) rfl rfl ?_
  refine XR_a (op_move rfl) rfl rfl ?_
  refine XR_if 9 rfl (fun h => ?_) (fun h => ?_)
  · refine XR_no rfl rfl ?_
    refine XR_no rfl rfl ?_
    refine XR_no rfl rfl ?_
    refine XR_a (op_pick_t rfl rfl) rfl rfl ?_
    refine XR_a (op_move rfl) rfl rfl ?_
    refine XR_no rfl rfl ?_
    refine XR_no rfl rfl ?_
    refine XR_no rfl rfl ?_
    refine XR_no rfl rfl ?_
    refine XR_no rfl rfl ?_
    refine XR_no rfl rfl ?_
    refine XR_a (op_pick_t rfl rfl) rfl rfl ?_
    refine XR_nil ?_
    refine X_then rfl ?_
    refine X_seq ?_
    refine X_reg ?_
    refine XR_a (op_assign rfl) rfl rfl ?_
    refine XR_a (op_assign rfl) rfl rfl ?_
    refine XR_nil ?_
    refine X_ret (.cons (.tmp rfl) (.cons (.tmp rfl) .nil)) ?_
    rw [valP_none (valC_none1 (by omega))]
    exact ⟨rfl, st.low⟩
  · first | refine XR_a (op_field0 rfl rfl) rfl rfl ?_ | refine XR_a (op_fieldn rfl rfl) rfl rfl ?_
    refine XR_a (op_ld (st.cell 0 (i := 0) rfl rfl) rfl rfl rfl) rfl rfl ?_
    refine XR_a (op_gtr rfl rfl) rfl rfl ?_
    refine XR_a (op_pick_f rfl rfl) rfl rfl ?_
    refine XR_a (op_move rfl) rfl rfl ?_
    refine XR_if 14 rfl (fun h => ?_) (fun h => ?_)
    · refine XR_no rfl rfl ?_
      refine XR_no rfl rfl ?_
      refine XR_no rfl rfl ?_
      refine XR_no rfl rfl ?_
      refine XR_no rfl rfl ?_
      refine XR_no rfl rfl ?_
      refine XR_a (op_pick_t rfl rfl) rfl rfl ?_
      refine XR_nil ?_
      refine X_then rfl ?_
      refine X_seq ?_
      refine X_reg ?_
      refine XR_a (op_assign rfl) rfl rfl ?_
      refine XR_a (op_assign rfl) rfl rfl ?_
      refine XR_nil ?_
      refine X_ret (.cons (.tmp rfl) (.cons (.tmp rfl) .nil)) ?_
      rw [valP_none (valC_none1 (by omega))]
      exact ⟨rfl, st.low⟩
    · first | refine XR_a (op_field0 rfl rfl) rfl rfl ?_ | refine XR_a (op_fieldn rfl rfl) rfl rfl ?_
      refine XR_a (op_ld (st.cell 0 (i := 1) rfl rfl) rfl rfl rfl) rfl rfl ?_
      first | refine XR_a (op_field0 rfl rfl) rfl rfl ?_ | refine XR_a (op_fieldn rfl rfl) rfl rfl ?_
      refine XR_a (op_ld (st.cell 0 (i := 0) rfl rfl) rfl rfl rfl) rfl rfl ?_
      refine XR_ga (opl_call (bits_ref (by omega) _) rfl (by kernel_rfl)) rfl rfl rfl (fun _ _ h => h.2 ▸ Low.refl _ _) ?_
      rintro _ _ ⟨rfl, rfl⟩
      refine XR_a (op_neq rfl rfl) rfl rfl ?_
      refine XR_a (op_pick_f rfl rfl) rfl rfl ?_
      refine XR_nil ?_
      refine X_if rfl (fun h => ?_) (fun h => ?_)
      · obtain ⟨i, hi⟩ : ∃ i : Nat, c.num = i := ⟨c.num.toNat, by omega⟩
        rw [show c.num.toNat = i by omega] at h
        refine X_seq ?_
        refine X_reg ?_
        refine XR_a (op_assign rfl) rfl rfl ?_
        refine XR_a (op_assign rfl) rfl rfl ?_
        refine XR_nil ?_
        refine X_ret (.cons (.tmp rfl) (.cons (.tmp rfl) .nil)) ?_
        rw [valP_none (valC_none2 hi h)]
        exact ⟨rfl, st.low⟩
      · obtain ⟨i, hi⟩ : ∃ i : Nat, c.num = i := ⟨c.num.toNat, by omega⟩
        rw [show c.num.toNat = i by omega] at h
        have hbb := Decidable.not_not.1 h
        obtain ⟨e, he⟩ : ∃ e : Nat, c.ext = e := ⟨c.ext.toNat, by omega⟩
        have h30 : i < 30 := by omega
        have hk := bits14 h30
        have hp13 := pow13 hk
        have hbase := base30 h30
        refine X_skip ?_
        refine X_seq ?_
        refine X_reg ?_
        refine XR_a (op_assign rfl) rfl rfl ?_
        refine XR_nil ?_
        refine X_seq ?_
        refine X_seq ?_
        refine X_reg ?_
        refine XR_a (op_assign rfl) rfl rfl ?_
        refine XR_nil ?_
        refine X_block ?_
        refine X_loop (fun k => bitsC i - k) (fun k => [(1, .pointer (some ⟨p, 0, none⟩)), (4, .int .u32 ((2 ^ k : Nat) : Int)), (5, .int .i64 (k : Int))])
          (fun (k : Nat) hp => St h0.size h0 hp [pt p 32 (clsV c)] ∧ k ≤ bitsC i) 0 (.cons rfl (.cons rfl (.cons rfl (.nil _)))) ⟨st, by omega⟩ ?_
        clear st
        rintro k hp ⟨st, hki⟩
        refine X_seq ?_
        refine X_seq ?_
        refine X_reg ?_
        refine XR_a (op_move rfl) rfl rfl ?_
        first | refine XR_a (op_field0 rfl rfl) rfl rfl ?_ | refine XR_a (op_fieldn rfl rfl) rfl rfl ?_
        refine XR_a (op_ld (st.cell 0 (i := 1) rfl rfl) rfl rfl rfl) rfl rfl ?_
        refine XR_a (op_lss rfl rfl) rfl rfl ?_
        refine XR_nil ?_
        refine X_if rfl (fun h => ?_) (fun h => ?_)
        · have hk1 := pow13 (k := k) (by omega)
          refine X_skip ?_
          refine X_seq ?_
          refine X_block ?_
          refine X_reg ?_
          refine XR_a (op_move rfl) rfl rfl ?_
          refine XR_a (op_mulN (m := 2 ^ k) (n := 2) rfl rfl (by simp only [inK]; omega)) rfl rfl ?_
          refine XR_a (op_assign rfl) rfl rfl ?_
          refine XR_nil ?_
          refine X_blk ?_
          refine X_reg ?_
          refine XR_a (op_move rfl) rfl rfl ?_
          first | refine XR_a (op_addN (n := 1) rfl rfl (by simp only [inK]; omega)) rfl rfl ?_ | refine XR_a (op_addI rfl rfl (by simp only [inK]; omega)) rfl rfl ?_ | refine XR_a (op_add rfl rfl) rfl rfl ?_
          refine XR_a (op_assign rfl) rfl rfl ?_
          refine XR_nil ?_
          exact X_again (k + 1) (.cons rfl (.cons rfl (.cons rfl (.nil _)))) ⟨st, by omega⟩ (by omega)
        · obtain rfl : k = bitsC i := by omega
          refine X_exit rfl ?_
          refine X_seq ?_
          refine X_seq ?_
          refine X_reg ?_
          first | refine XR_a (op_field0 rfl rfl) rfl rfl ?_ | refine XR_a (op_fieldn rfl rfl) rfl rfl ?_
          refine XR_a (op_ld (st.cell 0 (i := 2) rfl rfl) rfl rfl rfl) rfl rfl ?_
          refine XR_a (op_move rfl) rfl rfl ?_
          refine XR_a (op_geq rfl rfl) rfl rfl ?_
          refine XR_nil ?_
          refine X_if rfl (fun h => ?_) (fun h => ?_)
          · refine X_seq ?_
            refine X_reg ?_
            refine XR_a (op_assign rfl) rfl rfl ?_
            refine XR_a (op_assign rfl) rfl rfl ?_
            refine XR_nil ?_
            refine X_ret (.cons (.tmp rfl) (.cons (.tmp rfl) .nil)) ?_
            rw [valP_none (valC_none3 hi he (by omega))]
            exact ⟨rfl, st.low⟩
          · rw [valP_some (valC_yes hi h30 hbb he (by omega))]
            refine X_skip ?_
            refine X_seq ?_
            refine X_draw_in (butAt [(2, .grow)]) [0, 1, 3, 4, 5, 2, 6, 7, 8] (by kernel_rfl) (by kernel_rfl) rfl ?_
            first | refine XR_a (op_field0 rfl rfl) rfl rfl ?_ | refine XR_a (op_fieldn rfl rfl) rfl rfl ?_
            refine XR_a (op_ld (st.cell 0 (i := 0) rfl rfl) rfl rfl rfl) rfl rfl ?_
            refine XR_as (.int .i64 (i : Int)) (by rw [hi]) ?_
            first | refine XR_a (op_field0 rfl rfl) rfl rfl ?_ | refine XR_a (op_fieldn rfl rfl) rfl rfl ?_
            refine XR_a (op_ld (st.cell 0 (i := 2) rfl rfl) rfl rfl rfl) rfl rfl ?_
            first | refine XR_a (op_convI rfl rfl (by simp only [inK]; omega)) rfl rfl ?_ | refine XR_a (op_conv rfl rfl) rfl rfl ?_
            refine XR_as (.int .i64 (e : Int)) (by rw [he]) ?_
            refine XR_ga (opl_call (base_ref (n := i) (by omega) _) rfl (by kernel_rfl)) rfl rfl rfl (fun _ _ h => h.2 ▸ Low.refl _ _) ?_
            rintro _ _ ⟨rfl, rfl⟩
            first | refine XR_a (op_addN rfl rfl (by simp only [inK]; omega)) rfl rfl ?_ | refine XR_a (op_addI rfl rfl (by simp only [inK]; omega)) rfl rfl ?_ | refine XR_a (op_add rfl rfl) rfl rfl ?_
            refine XR_a (op_assign rfl) rfl rfl ?_
            refine XR_a (op_assign rfl) rfl rfl ?_
            refine XR_nil ?_
            refine X_ret (.cons (.tmp rfl) (.cons (.tmp rfl) .nil)) ?_
            exact ⟨rfl, st.low⟩
end Go.Bn
