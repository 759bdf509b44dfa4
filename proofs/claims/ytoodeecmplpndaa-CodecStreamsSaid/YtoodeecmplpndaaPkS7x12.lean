/- Packed texts of a claim: what its theorem uses, joined. -/
import Derived.Test.YtoodeecmplpndaaProg
import Derived.Test.YtoodeecmplpndaaPkS7x10
import Derived.Test.YtoodeecmplpndaaPkS7x11
section
set_option linter.unusedVariables false
set_option linter.unusedSimpArgs false
set_option maxHeartbeats 4000000
set_option maxRecDepth 20000
namespace Go.Bn
open Go Proofs
@[reducible] def clsV (c : Kls) : List Value := [.int .i64 c.num, .int .i64 c.bits, .int .u32 c.ext]
@[reducible] def tokV (t : Tok) : List Value := [.int .u8 t.byte, .int .i64 t.len, .int .i64 t.dist]
@[reducible] def syV (r : Sy) : List Value := [.int .i64 r.a.num, .int .i64 r.a.bits, .int .u32 r.a.ext, .int .i64 r.b.num, .int .i64 r.b.bits, .int .u32 r.b.ext, .bool r.m]
theorem clsV_one (d : Kls) : ∀ u ∈ clsV d, Value.one u = true := by
 intro u hu; simp [clsV] at hu; rcases hu with rfl | rfl | rfl <;> rfl
theorem tokV_one (d : Tok) : ∀ u ∈ tokV d, Value.one u = true := by
 intro u hu; simp [tokV] at hu; rcases hu with rfl | rfl | rfl <;> rfl
theorem syV_one (d : Sy) : ∀ u ∈ syV d, Value.one u = true := by
 intro u hu; simp [syV] at hu; rcases hu with rfl | rfl | rfl | rfl | rfl | rfl | rfl <;> rfl
theorem eqL_tok (a b : Tok) : eqL (tokV a) (tokV b) = decide (a = b) := by
 cases a; cases b; rw [Bool.eq_iff_iff]; simp [eqL, eqv]
theorem eqL_sy (a b : Sy) : eqL (syV a) (syV b) = decide (a = b) := by
 obtain ⟨⟨_, _, _⟩, ⟨_, _, _⟩, _⟩ := a
 obtain ⟨⟨_, _, _⟩, ⟨_, _, _⟩, _⟩ := b
 rw [Bool.eq_iff_iff]; simp [eqL, eqv, and_assoc]
def lenTab : List UInt8 := (List.range 256).map fun i => UInt8.ofNat (lenN i)
theorem lenTab_get {i : Nat} (h : i < 256) : (ByteArray.mk lenTab.toArray)[i]? = some (UInt8.ofNat (lenN i)) := by
 have hs : (ByteArray.mk lenTab.toArray).size = 256 := by simp [ByteArray.size, lenTab]
 have : (ByteArray.mk lenTab.toArray)[i]? = lenTab[i]? := by
  rw [getElem?_pos _ i (by rw [hs]; exact h)]
  rw [List.getElem?_eq_getElem (by simp [lenTab]; omega)]
  rfl
 rw [this]
 simp [lenTab, h]
theorem lenN_lt {v k : Nat} (h : v < 2 ^ k) : lenN v ≤ k := by
 unfold lenN
 split
 ·omega
 ·rename_i h0; have := (Nat.log2_lt h0).2 h; omega
theorem len_shift {v : Nat} (h : 256 ≤ v) : 8 + lenN (v / 256) = lenN v := by
 have h1 : v / 256 ≠ 0 := by omega
 have h2 : v ≠ 0 := by omega
 unfold lenN
 rw [if_neg h1, if_neg h2]
 have e : Nat.log2 (v / 256) + 8 = Nat.log2 v := by
  apply Eq.symm
  rw [Nat.log2_eq_iff h2]
  have a1 := Nat.log2_self_le h1
  have a2 : v / 256 < 2 ^ (Nat.log2 (v / 256) + 1) := Nat.lt_log2_self
  have p1 : 2 ^ (Nat.log2 (v / 256) + 8) = 2 ^ Nat.log2 (v / 256) * 256 := Nat.pow_add _ _ 8
  have p2 : 2 ^ (Nat.log2 (v / 256) + 8 + 1) = 2 ^ (Nat.log2 (v / 256) + 1) * 256 := by
   rw [show Nat.log2 (v / 256) + 8 + 1 = (Nat.log2 (v / 256) + 1) + 8 by omega]; exact Nat.pow_add _ _ 8
  rw [p1, p2]
  constructor <;> omega
 omega
theorem len64_spec {v : Nat} (hv : v < 65536) (h0 : Heap) : Ret Try.prog 130 [.int .u64 (v : Int)] h0 fun r h' => r = .int .i64 (lenN v : Nat) ∧ h0 = h' := by
 refine ret_of_X Try.func130 rfl rfl fun w0 hw0 => ?_
 simp only [argE, Nat.zero_add, Nat.reduceAdd]
 refine X_seq (X_reg (XA rfl rfl rfl (XR_nil (X_seq (X_seq (X_reg (XV rfl rfl rfl ?_)))))))
 refine XR_a (op_geq rfl rfl) rfl rfl ?_
 refine XR_as (.bool false) (congrArg Value.bool (decide_eq_false (by omega))) ?_
 refine XR_nil (X_else rfl (X_skip (X_seq (X_seq (X_reg (XV rfl rfl rfl ?_))))))
 refine XR_a (op_geq rfl rfl) rfl rfl ?_
 refine XR_as (.bool false) (congrArg Value.bool (decide_eq_false (by omega))) ?_
 refine XR_nil (X_else rfl (X_skip (X_seq (X_seq (X_reg (XV rfl rfl rfl ?_))))))
 refine XR_a (op_geq rfl rfl) rfl rfl ?_
 refine XR_nil ?_
 refine X_if rfl (fun h => ?_) (fun h => ?_)
 ·refine X_seq (X_reg (XV rfl rfl rfl ?_))
  first | refine XR_a (op_shrC 8 rfl rfl (by decide)) rfl rfl ?_ | refine XR_a (op_shrN 8 rfl rfl (by decide)) rfl rfl ?_
  refine XA rfl rfl rfl (XR_nil (X_reg (XV rfl rfl rfl ?_)))
  first | refine XR_a (op_addN (n := 8) rfl rfl (by simp only [inK]; omega)) rfl rfl ?_ | refine XR_a (op_addI rfl rfl (by simp only [inK]; omega)) rfl rfl ?_ | refine XR_a (op_add rfl rfl) rfl rfl ?_
  refine XA rfl rfl rfl (XR_nil (X_seq (X_reg (XV rfl rfl rfl (XV rfl rfl rfl ?_)))))
  first | refine XR_a (op_convI rfl rfl (by simp only [inK]; omega)) rfl rfl ?_ | refine XR_a (op_convU rfl rfl rfl) rfl rfl ?_ | refine XR_a (op_conv rfl rfl) rfl rfl ?_
  have hi : v / 2 ^ 8 < 256 := by omega
  have hl := lenN_lt (v := v / 2 ^ 8) (k := 8) hi
  have hs := len_shift (v := v) (by omega)
  rw [show (256 : Nat) = 2 ^ 8 from rfl] at hs
  generalize v / 2 ^ 8 = u at *
  refine XR_a (op_indexS (s := ByteArray.mk lenTab.toArray) (i := u) (by kernel_rfl) rfl rfl (lenTab_get hi)) rfl rfl ?_
  rw [show (UInt8.ofNat (lenN u)).toNat = lenN u by simp; omega]
  first | refine XR_a (op_convI rfl rfl (by simp only [inK]; omega)) rfl rfl ?_ | refine XR_a (op_conv rfl rfl) rfl rfl ?_
  refine XR_a (op_addN (m := 8) (n := lenN u) rfl rfl (by simp only [inK]; omega)) rfl rfl ?_
  rw [hs]
  refine XA rfl rfl rfl (XR_nil ?_)
  refine X_ret (.cons (.tmp rfl) .nil) ?_
  exact ⟨rfl, rfl⟩
 ·refine X_skip (X_seq (X_reg (XV rfl rfl rfl (XV rfl rfl rfl ?_))))
  first | refine XR_a (op_convI rfl rfl (by simp only [inK]; omega)) rfl rfl ?_ | refine XR_a (op_convU rfl rfl rfl) rfl rfl ?_ | refine XR_a (op_conv rfl rfl) rfl rfl ?_
  have hl := lenN_lt (v := v) (k := 8) (by omega)
  refine XR_a (op_indexS (s := ByteArray.mk lenTab.toArray) (i := v) (by kernel_rfl) rfl rfl (lenTab_get (by omega))) rfl rfl ?_
  rw [show (UInt8.ofNat (lenN v)).toNat = lenN v by simp; omega]
  first | refine XR_a (op_convI rfl rfl (by simp only [inK]; omega)) rfl rfl ?_ | refine XR_a (op_conv rfl rfl) rfl rfl ?_
  refine XR_a (op_addN (m := 0) (n := lenN v) rfl rfl (by simp only [inK]; omega)) rfl rfl ?_
  refine XR_as (.int .i64 (lenN v : Nat)) (by rw [Nat.zero_add]) ?_
  refine XA rfl rfl rfl (XR_nil ?_)
  refine X_ret (.cons (.tmp rfl) .nil) ?_
  exact ⟨rfl, rfl⟩
theorem blen_spec {v : Nat} (hv : v < 65536) (h0 : Heap) : Ret Try.prog 103 [.int .u64 (v : Int)] h0 fun r h' => r = .int .i64 (lenN v : Nat) ∧ h0 = h' := by
 refine ret_of_X Try.func103 rfl rfl fun w0 hw0 => ?_
 simp only [argE, Nat.zero_add, Nat.reduceAdd]
 refine X_seq (X_reg (XA rfl rfl rfl (XR_nil (X_seq (X_else rfl (X_skip (X_seq (X_reg (XV rfl rfl rfl ?_)))))))))
 refine XR_wa (opl_call (len64_spec hv _) rfl (by kernel_rfl)) rfl rfl rfl ?_
 rintro _ _ ⟨rfl, rfl⟩
 refine XA rfl rfl rfl (XR_nil ?_)
 refine X_ret (.cons (.tmp rfl) .nil) ?_
 exact ⟨rfl, rfl⟩
theorem sof_spec {v : Int} (h0 : Heap) : Ret Try.prog 79 [.int .i64 v] h0 fun r h' => r = retVal [.agg (clsV (ofC v).1).toArray, .bool (ofC v).2] ∧ Ext h0 h' := by
 refine ret_of_X Try.func79 rfl rfl fun w0 hw0 => ?_
 simp only [argE, Nat.zero_add, Nat.reduceAdd]
 have st := St.start h0
 refine X_seq (X_reg ?_)
 refine XR_wa (opl_new rfl) rfl rfl rfl ?_
 rintro _ hp ⟨pp1, rfl, hnew⟩
 replace st := st.new hnew
 refine XA rfl rfl rfl (XR_nil (X_seq (X_block (X_seq (X_reg (XV rfl rfl rfl ?_))))))
 refine XR_a (op_lss rfl rfl) rfl rfl ?_
 refine XV rfl rfl rfl ?_
 refine XR_if 8 rfl (fun h => ?_) (fun h => ?_)
 ·refine XR_no rfl rfl (XR_no rfl rfl (XR_a (op_pick_t rfl rfl) rfl rfl (XA rfl rfl rfl (XR_nil (X_then rfl (X_seq (X_reg ?_)))))))
  refine XR_a (op_build (ps := []) (cs := (clsV Kls.nil).toArray) rfl rfl) rfl rfl ?_
  refine XR_wn (opl_store_whole (us := clsV Kls.nil) st 0 rfl rfl rfl rfl rfl (clsV_one _) rfl) rfl rfl fun _ hp st => ?_
  simp only [List.set_cons_zero, List.set_cons_succ] at st
  refine XA rfl rfl rfl (XR_nil ?_)
  refine X_ret (.cons (RV_agg (vs := clsV Kls.nil) rfl rfl rfl (st.cells 0 rfl)) (.cons (.tmp rfl) .nil)) ?_
  have e : ofC v = (Kls.nil, false) := by unfold ofC; rw [if_pos (by omega)]
  rw [e]
  exact ⟨rfl, st.low⟩
 ·refine XV rfl rfl rfl ?_
  refine XR_a (op_gtr rfl rfl) rfl rfl ?_
  refine XR_a (op_pick_f rfl rfl) rfl rfl (XA rfl rfl rfl (XR_nil ?_))
  refine X_if rfl (fun h => ?_) (fun h => ?_)
  ·refine X_seq (X_reg ?_)
   refine XR_a (op_build (ps := []) (cs := (clsV Kls.nil).toArray) rfl rfl) rfl rfl ?_
   refine XR_wn (opl_store_whole (us := clsV Kls.nil) st 0 rfl rfl rfl rfl rfl (clsV_one _) rfl) rfl rfl fun _ hp st => ?_
   simp only [List.set_cons_zero, List.set_cons_succ] at st
   refine XA rfl rfl rfl (XR_nil ?_)
   refine X_ret (.cons (RV_agg (vs := clsV Kls.nil) rfl rfl rfl (st.cells 0 rfl)) (.cons (.tmp rfl) .nil)) ?_
   have e : ofC v = (Kls.nil, false) := by unfold ofC; rw [if_pos (by omega)]
   rw [e]
   exact ⟨rfl, st.low⟩
  ·refine X_seq (X_reg (XV rfl rfl rfl ?_))
   refine XR_a (op_lss rfl rfl) rfl rfl ?_
   refine XA rfl rfl rfl (XR_nil ?_)
   refine X_if rfl (fun h => ?_) (fun h => ?_)
   ·obtain ⟨x, rfl⟩ : ∃ x : Nat, v = x := ⟨v.toNat, by omega⟩
    have e : ofC (x : Int) = (⟨x, 0, 0⟩, true) := by
     unfold ofC; rw [if_neg (by omega), Int.toNat_natCast, klsOf_small (by omega)]
    rw [e]
    refine X_seq (X_reg (XV rfl rfl rfl ?_))
    refine XR_a (op_build (ps := [(0, .int .i64 (x : Int))]) (cs := (clsV ⟨x, 0, 0⟩).toArray) rfl rfl) rfl rfl ?_
    refine XR_wn (opl_store_whole (us := clsV ⟨x, 0, 0⟩) st 0 rfl rfl rfl rfl rfl (clsV_one _) rfl) rfl rfl fun _ hp st => ?_
    simp only [List.set_cons_zero, List.set_cons_succ] at st
    refine XA rfl rfl rfl (XR_nil ?_)
    refine X_ret (.cons (RV_agg (vs := clsV ⟨x, 0, 0⟩) rfl rfl rfl (st.cells 0 rfl)) (.cons (.tmp rfl) .nil)) ?_
    exact ⟨rfl, st.low⟩
   ·obtain ⟨x, rfl⟩ : ∃ x : Nat, v = x := ⟨v.toNat, by omega⟩
    obtain ⟨n, q, hn, hn1, hq, hv, hc, hb, hbase, hsum⟩ := kls_spec (v := x) (by omega)
    have e : ofC (x : Int) = (⟨((2 * n + q : Nat) : Int), n, ((x % 2 ^ n : Nat) : Int)⟩, true) := by
     unfold ofC; rw [if_neg (by omega), Int.toNat_natCast, klsOf_big hc hb hbase hsum]
    rw [e]
    have hp2 : 2 * 2 ^ n ≤ x := by
     rcases hq with rfl | rfl <;> omega
    have hp0 := two_lt n
    have hn14 : n ≤ 14 := by
     have : 2 ^ n < 2 ^ 15 := by omega
     have := (Nat.pow_lt_pow_iff_right (by omega : 1 < 2)).1 this
     omega
    have hxm := Nat.mod_lt x hp0
    refine X_skip (X_blk (X_seq (X_reg (XV rfl rfl rfl ?_))))
    first | refine XR_a (op_convI rfl rfl (by simp only [inK]; omega)) rfl rfl ?_ | refine XR_a (op_convU rfl rfl rfl) rfl rfl ?_ | refine XR_a (op_conv rfl rfl) rfl rfl ?_
    refine XR_wa (opl_call (blen_spec (v := x) (by omega) _) rfl (by kernel_rfl)) rfl rfl rfl ?_
    rintro _ _ ⟨rfl, rfl⟩
    rw [hn]
    refine XR_a (op_subN (m := n + 2) (n := 2) rfl rfl (by omega) (by simp only [inK]; omega)) rfl rfl ?_
    rw [Nat.add_sub_cancel]
    refine XA rfl rfl rfl (XR_nil (X_seq ?_))
    refine X_draw byKind (by kernel_rfl) (by kernel_rfl) ?_
    refine XV rfl rfl rfl ?_
    first | refine XR_a (op_mulN (m := 2) rfl rfl (by simp only [inK]; omega)) rfl rfl ?_ | refine XR_a (op_mulI rfl rfl (by simp only [inK]; omega)) rfl rfl ?_ | refine XR_a (op_mul rfl rfl) rfl rfl ?_
    refine XV rfl rfl rfl (XV rfl rfl rfl ?_)
    refine XR_a (op_shrC (m := x) n rfl rfl (by simp only [IntKind.bits]; omega)) rfl rfl ?_
    rw [hv]
    first | refine XR_a (op_addN rfl rfl (by simp only [inK]; omega)) rfl rfl ?_ | refine XR_a (op_addI rfl rfl (by simp only [inK]; omega)) rfl rfl ?_ | refine XR_a (op_add rfl rfl) rfl rfl ?_
    refine XV rfl rfl rfl (XV rfl rfl rfl (XV rfl rfl rfl ?_))
    refine XR_a (op_shlC (m := 1) n rfl rfl (by simp only [IntKind.bits]; omega) (by simp only [inK]; omega)) rfl rfl ?_
    rw [Nat.one_mul]
    refine XR_a (op_subN (m := 2 ^ n) (n := 1) rfl rfl (by omega) (by simp only [inK]; omega)) rfl rfl ?_
    refine XR_a (op_andS (m := x) (n := 2 ^ n - 1) rfl rfl (by simp only [inK]; omega) (by simp only [inK]; omega)) rfl rfl ?_
    rw [Nat.and_two_pow_sub_one_eq_mod]
    generalize x % 2 ^ n = y at *
    first | refine XR_a (op_convI rfl rfl (by simp only [inK]; omega)) rfl rfl ?_ | refine XR_a (op_convU rfl rfl rfl) rfl rfl ?_ | refine XR_a (op_conv rfl rfl) rfl rfl ?_
    refine XR_a (op_build (ps := [(0, .int .i64 ((2 * n + q : Nat) : Int)), (1, .int .i64 (n : Int)), (2, .int .u32 (y : Int))]) (cs := (clsV ⟨((2 * n + q : Nat) : Int), n, (y : Int)⟩).toArray) rfl rfl) rfl rfl ?_
    refine XR_wn (opl_store_whole (us := clsV ⟨((2 * n + q : Nat) : Int), n, (y : Int)⟩) st 0 rfl rfl rfl rfl rfl (clsV_one _) rfl) rfl rfl fun _ hp st => ?_
    simp only [List.set_cons_zero, List.set_cons_succ] at st
    refine XA rfl rfl rfl (XR_nil ?_)
    refine X_ret (.cons (RV_agg (vs := clsV ⟨((2 * n + q : Nat) : Int), n, (y : Int)⟩) rfl rfl rfl (st.cells 0 rfl)) (.cons (.tmp rfl) .nil)) ?_
    exact ⟨rfl, st.low⟩
def baseP (i : Int) : Int × Int × Bool := if i < 0 ∨ 30 ≤ i then (0, 0, false) else (baseC i.toNat, bitsC i.toNat, true)
theorem bits14 {i : Nat} (h : i < 30) : bitsC i ≤ 13 := by unfold bitsC; split <;> omega
theorem pow13 {k : Nat} (h : k ≤ 13) : 2 ^ k ≤ 8192 := Nat.pow_le_pow_right (by omega) h
theorem sbase_spec (v : Int) (h0 : Heap) : Ret Try.prog 94 [.int .i64 v] h0 fun r h' => r = retVal [.int .i64 (baseP v).1, .int .i64 (baseP v).2.1, .bool (baseP v).2.2] ∧ h0 = h' := by
 refine ret_of_X Try.func94 rfl rfl fun w0 hw0 => ?_
 simp only [argE, Nat.zero_add, Nat.reduceAdd]
 refine X_seq (X_reg (XA rfl rfl rfl (XA rfl rfl rfl (XA rfl rfl rfl (XR_nil (X_seq (X_block (X_seq (X_reg ?_)))))))))
 refine XV rfl rfl rfl ?_
 refine XR_a (op_lss rfl rfl) rfl rfl ?_
 refine XV rfl rfl rfl ?_
 refine XR_if 9 rfl (fun h => ?_) (fun h => ?_)
 ·refine XR_no rfl rfl (XR_no rfl rfl (XR_a (op_pick_t rfl rfl) rfl rfl (XA rfl rfl rfl (XR_nil (X_then rfl (X_seq (X_reg (XA rfl rfl rfl (XA rfl rfl rfl ?_)))))))))
  refine XA rfl rfl rfl (XR_nil ?_)
  refine X_ret (.cons (.tmp rfl) (.cons (.tmp rfl) (.cons (.tmp rfl) .nil))) ?_
  have e : baseP v = (0, 0, false) := by unfold baseP; rw [if_pos (by omega)]
  rw [e]
  exact ⟨rfl, rfl⟩
 ·refine XV rfl rfl rfl ?_
  refine XR_a (op_geq rfl rfl) rfl rfl ?_
  refine XR_a (op_pick_f rfl rfl) rfl rfl (XA rfl rfl rfl (XR_nil ?_))
  refine X_if rfl (fun h => ?_) (fun h => ?_)
  ·refine X_seq (X_reg (XA rfl rfl rfl (XA rfl rfl rfl (XA rfl rfl rfl (XR_nil ?_)))))
   refine X_ret (.cons (.tmp rfl) (.cons (.tmp rfl) (.cons (.tmp rfl) .nil))) ?_
   have e : baseP v = (0, 0, false) := by unfold baseP; rw [if_pos (by omega)]
   rw [e]
   exact ⟨rfl, rfl⟩
  ·refine X_seq (X_reg (XV rfl rfl rfl ?_))
   refine XR_a (op_lss rfl rfl) rfl rfl ?_
   refine XA rfl rfl rfl (XR_nil ?_)
   refine X_if rfl (fun h => ?_) (fun h => ?_)
   ·obtain ⟨x, rfl⟩ : ∃ x : Nat, v = x := ⟨v.toNat, by omega⟩
    have e : baseP (x : Int) = ((x : Int), 0, true) := by
     unfold baseP; rw [if_neg (by omega), Int.toNat_natCast, baseC_small _ (by omega)]
     unfold bitsC; rw [if_pos (by omega)]; rfl
    rw [e]
    refine X_seq (X_reg (XV rfl rfl rfl (XA rfl rfl rfl (XA rfl rfl rfl (XA rfl rfl rfl (XR_nil ?_))))))
    refine X_ret (.cons (.tmp rfl) (.cons (.tmp rfl) (.cons (.tmp rfl) .nil))) ?_
    exact ⟨rfl, rfl⟩
   ·obtain ⟨x, rfl⟩ : ∃ x : Nat, v = x := ⟨v.toNat, by omega⟩
    have e : baseP (x : Int) = ((((2 + x % 2) * 2 ^ (x / 2 - 1) : Nat) : Int), ((x / 2 - 1 : Nat) : Int), true) := by
     unfold baseP; rw [if_neg (by omega), Int.toNat_natCast, baseC_form _ (by omega)]
     unfold bitsC; rw [if_neg (by omega)]
    rw [e]
    have hk : x / 2 - 1 ≤ 13 := by omega
    have hp := pow13 hk
    refine X_skip (X_blk (X_seq (X_reg (XV rfl rfl rfl ?_))))
    first | refine XR_a (op_quoN (n := 2) rfl rfl (by omega) (by simp only [inK]; omega)) rfl rfl ?_ | refine XR_a (op_quoI rfl rfl (by omega) (by omega) (by simp only [inK]; omega)) rfl rfl ?_ | refine XR_a (op_quo rfl rfl (by omega)) rfl rfl ?_
    refine XR_a (op_subN (m := x / 2) (n := 1) rfl rfl (by omega) (by simp only [inK]; omega)) rfl rfl ?_
    have hx2 : 2 + x % 2 ≤ 3 := by omega
    generalize x / 2 - 1 = k at *
    refine XA rfl rfl rfl (XR_nil (X_seq (X_reg (XV rfl rfl rfl ?_))))
    first | refine XR_a (op_remN (n := 2) rfl rfl (by omega)) rfl rfl ?_ | refine XR_a (op_remI rfl rfl (by omega) (by omega)) rfl rfl ?_ | refine XR_a (op_rem rfl rfl (by omega)) rfl rfl ?_
    first | refine XR_a (op_addN (m := 2) rfl rfl (by simp only [inK]; omega)) rfl rfl ?_ | refine XR_a (op_addI rfl rfl (by simp only [inK]; omega)) rfl rfl ?_ | refine XR_a (op_add rfl rfl) rfl rfl ?_
    refine XV rfl rfl rfl ?_
    have hb : (2 + x % 2) * 2 ^ k ≤ 3 * 8192 := Nat.mul_le_mul hx2 hp
    refine XR_a (op_shlC (m := 2 + x % 2) k rfl rfl (by simp only [IntKind.bits]; omega) (by simp only [inK]; omega)) rfl rfl ?_
    refine XV rfl rfl rfl (XA rfl rfl rfl (XA rfl rfl rfl (XA rfl rfl rfl (XR_nil ?_))))
    refine X_ret (.cons (.tmp rfl) (.cons (.tmp rfl) (.cons (.tmp rfl) .nil))) ?_
    exact ⟨rfl, rfl⟩
theorem sbase_yes {v : Int} {i : Nat} (hi : v = i) (h : i < 30) (h0 : Heap) : Ret Try.prog 94 [.int .i64 v] h0 fun r h' => r = retVal [.int .i64 (baseC i : Nat), .int .i64 (bitsC i : Nat), .bool true] ∧ h0 = h' := by
 have e := sbase_spec v h0
 rw [show baseP v = ((baseC i : Int), (bitsC i : Int), true) by unfold baseP; rw [if_neg (by omega), hi, Int.toNat_natCast]] at e
 exact e
theorem sbase_no {v : Int} (h : v < 0 ∨ 30 ≤ v) (h0 : Heap) : Ret Try.prog 94 [.int .i64 v] h0 fun r h' => r = retVal [.int .i64 0, .int .i64 0, .bool false] ∧ h0 = h' := by
 have e := sbase_spec v h0
 rw [show baseP v = (0, 0, false) by unfold baseP; rw [if_pos h]] at e
 exact e
def valP (c : Kls) : Int × Bool := match valC c with
  | some v => ((v : Int), true)
  | none => (0, false)
theorem valP_some {c : Kls} {v : Nat} (h : valC c = some v) : valP c = ((v : Int), true) := by unfold valP; rw [h]
theorem valP_none {c : Kls} (h : valC c = none) : valP c = (0, false) := by unfold valP; rw [h]
theorem valC_none1 {c : Kls} (h : c.num < 0 ∨ 30 ≤ c.num) : valC c = none := by unfold valC; rw [if_pos h]
theorem valC_none2 {c : Kls} {i : Nat} (hi : c.num = i) (h : c.bits ≠ bitsC i) : valC c = none := by
 unfold valC
 split
 ·rfl
 ·rw [if_pos (by rw [hi]; exact h)]
theorem valC_none3 {c : Kls} {i e : Nat} (hi : c.num = i) (he : c.ext = e) (h : 2 ^ bitsC i ≤ e) : valC c = none := by
 unfold valC
 split
 ·rfl
 ·split
  ·rfl
  ·have hp : ((2 ^ bitsC i : Nat) : Int) = (2 : Int) ^ bitsC i := by rw [Int.natCast_pow]; rfl
   rw [if_pos (by rw [hi, he, Int.toNat_natCast, ← hp]; omega)]
theorem valC_yes {c : Kls} {i e : Nat} (hi : c.num = i) (h30 : i < 30) (hb : c.bits = bitsC i) (he : c.ext = e) (h : e < 2 ^ bitsC i) : valC c = some (baseC i + e) := by
 have hp : ((2 ^ bitsC i : Nat) : Int) = (2 : Int) ^ bitsC i := by rw [Int.natCast_pow]; rfl
 unfold valC
 rw [if_neg (by omega), hi, Int.toNat_natCast, if_neg (by rw [hb]; simp), if_neg (by rw [he, ← hp]; omega), he, Int.toNat_natCast]
theorem base30 {i : Nat} (h : i < 30) : baseC i + 2 ^ bitsC i ≤ 32768 := by
 have := baseC_mono (show i + 1 ≤ 30 by omega)
 rw [baseC, show baseC 30 = 32768 by decide] at this
 exact this
theorem sval_spec {c : Kls} (hx : 0 ≤ c.ext ∧ c.ext < 4294967296) (h0 : Heap) : Ret Try.prog 125 [.agg #[.int .i64 c.num, .int .i64 c.bits, .int .u32 c.ext]] h0 fun r h' => r = retVal [.int .i64 (valP c).1, .bool (valP c).2] ∧ Ext h0 h' := by
 refine ret_of_X Try.func125 rfl rfl fun w0 hw0 => ?_
 simp only [argE, Nat.zero_add, Nat.reduceAdd]
 have st := St.start h0
 refine X_seq (X_reg ?_)
 refine XR_wa (opl_bx rfl rfl) rfl rfl rfl ?_
 rintro _ hp ⟨p, rfl, hnew⟩
 have st := st.new hnew
 refine XA rfl rfl rfl (XA rfl rfl rfl (XR_nil (X_seq (X_reg ?_))))
 first | refine XR_a (op_field0 rfl rfl) rfl rfl ?_ | refine XR_a (op_fieldn rfl rfl) rfl rfl ?_
 by_cases hr : c.num < 0 ∨ 30 ≤ c.num
 ·refine XR_a (op_ld (by first | assumption | exact st.cell 0 rfl rfl | exact st.cell 1 rfl rfl | exact st.cell 2 rfl rfl | exact st.cell 3 rfl rfl) rfl rfl rfl) rfl rfl ?_
  refine XR_wa (opl_call (sbase_no hr _) rfl (by kernel_rfl)) rfl rfl rfl ?_
  rintro _ _ ⟨rfl, rfl⟩
  refine XV rfl rfl rfl (XR_a (op_extract rfl rfl) rfl rfl (XR_a (op_extract rfl rfl) rfl rfl (XR_a (op_extract rfl rfl) rfl rfl (XA rfl rfl rfl (XA rfl rfl rfl (XA rfl rfl rfl (XR_nil (X_seq (X_seq ?_)))))))))
  refine X_reg (XV rfl rfl rfl ?_)
  first | refine XR_a (op_notd rfl) rfl rfl ?_ | refine XR_a (op_not rfl) rfl rfl ?_
  refine XV rfl rfl rfl (XR_no rfl rfl (XR_no rfl rfl (XR_no rfl rfl (XR_no rfl rfl (XR_a (op_pick_t rfl rfl) rfl rfl (XV rfl rfl rfl (XR_no rfl rfl (XR_no rfl rfl (XR_no rfl rfl ?_)))))))))
  refine XR_no rfl rfl (XR_no rfl rfl (XR_a (op_pick_t rfl rfl) rfl rfl (XR_nil (X_then rfl (X_seq (X_reg (XA rfl rfl rfl (XA rfl rfl rfl (XR_nil ?_)))))))))
  refine X_ret (.cons (.tmp rfl) (.cons (.tmp rfl) .nil)) ?_
  rw [valP_none (valC_none1 hr)]
  exact ⟨rfl, st.low⟩
 ·obtain ⟨i, hi⟩ : ∃ i : Nat, c.num = i := ⟨c.num.toNat, by omega⟩
  obtain ⟨e, he⟩ : ∃ e : Nat, c.ext = e := ⟨c.ext.toNat, by omega⟩
  have h30 : i < 30 := by omega
  have hk := bits14 h30
  have hp := pow13 hk
  have hp0 := two_lt (bitsC i)
  have hbase := base30 h30
  refine XR_a (op_ld (by first | assumption | exact st.cell 0 rfl rfl | exact st.cell 1 rfl rfl | exact st.cell 2 rfl rfl | exact st.cell 3 rfl rfl) rfl rfl rfl) rfl rfl ?_
  refine XR_wa (opl_call (sbase_yes hi h30 _) rfl (by kernel_rfl)) rfl rfl rfl ?_
  rintro _ _ ⟨rfl, rfl⟩
  refine XV rfl rfl rfl (XR_a (op_extract rfl rfl) rfl rfl (XR_a (op_extract rfl rfl) rfl rfl (XR_a (op_extract rfl rfl) rfl rfl (XA rfl rfl rfl (XA rfl rfl rfl (XA rfl rfl rfl (XR_nil (X_seq (X_seq ?_)))))))))
  refine X_reg (XV rfl rfl rfl ?_)
  first | refine XR_a (op_notd rfl) rfl rfl ?_ | refine XR_a (op_not rfl) rfl rfl ?_
  refine XV rfl rfl rfl (XV rfl rfl rfl ?_)
  first | refine XR_a (op_field0 rfl rfl) rfl rfl ?_ | refine XR_a (op_fieldn rfl rfl) rfl rfl ?_
  refine XR_a (op_ld (by first | assumption | exact st.cell 0 rfl rfl | exact st.cell 1 rfl rfl | exact st.cell 2 rfl rfl | exact st.cell 3 rfl rfl) rfl rfl rfl) rfl rfl ?_
  refine XR_a (op_neq rfl rfl) rfl rfl ?_
  refine XR_a (op_pick_f rfl rfl) rfl rfl (XV rfl rfl rfl ?_)
  refine XR_if 22 rfl (fun h => ?_) (fun h => ?_)
  ·refine XR_no rfl rfl (XR_no rfl rfl (XR_no rfl rfl (XR_no rfl rfl (XR_no rfl rfl (XR_a (op_pick_t rfl rfl) rfl rfl (XR_nil (X_then rfl (X_seq (X_reg ?_)))))))))
   refine XA rfl rfl rfl (XA rfl rfl rfl (XR_nil ?_))
   refine X_ret (.cons (.tmp rfl) (.cons (.tmp rfl) .nil)) ?_
   rw [valP_none (valC_none2 hi (fun hh => h (by rw [hh])))]
   exact ⟨rfl, st.low⟩
  ·first | refine XR_a (op_field0 rfl rfl) rfl rfl ?_ | refine XR_a (op_fieldn rfl rfl) rfl rfl ?_
   refine XR_a (op_ld (by first | assumption | exact st.cell 0 rfl rfl | exact st.cell 1 rfl rfl | exact st.cell 2 rfl rfl | exact st.cell 3 rfl rfl) rfl rfl rfl) rfl rfl ?_
   refine XV rfl rfl rfl ?_
   rw [he]
   refine XR_a (op_shrA (m := e) (bitsC i) rfl rfl (by simp only [IntKind.bits]; omega)) rfl rfl ?_
   refine XR_a (op_neq rfl rfl) rfl rfl ?_
   refine XR_a (op_pick_f rfl rfl) rfl rfl (XR_nil ?_)
   refine X_if rfl (fun h => ?_) (fun h => ?_)
   ·have hge : 2 ^ bitsC i ≤ e := by
     rcases Nat.lt_or_ge e (2 ^ bitsC i) with hlt | hge
     ·exact absurd (by rw [Nat.div_eq_of_lt hlt]; rfl) h
     ·exact hge
    refine X_seq (X_reg (XA rfl rfl rfl (XA rfl rfl rfl (XR_nil ?_))))
    refine X_ret (.cons (.tmp rfl) (.cons (.tmp rfl) .nil)) ?_
    rw [valP_none (valC_none3 hi he hge)]
    exact ⟨rfl, st.low⟩
   ·have hlt : e < 2 ^ bitsC i := by
     rcases Nat.lt_or_ge e (2 ^ bitsC i) with hlt | hge
     ·exact hlt
     ·have : 0 < e / 2 ^ bitsC i := Nat.div_pos hge hp0
      omega
    have hbb : c.bits = bitsC i := by omega
    rw [valP_some (valC_yes hi h30 hbb he hlt)]
    refine X_skip (X_seq (X_reg (XV rfl rfl rfl ?_)))
    first | refine XR_a (op_field0 rfl rfl) rfl rfl ?_ | refine XR_a (op_fieldn rfl rfl) rfl rfl ?_
    refine XR_a (op_ld (st.cell 0 (i := 2) rfl rfl) rfl rfl rfl) rfl rfl ?_
    first | refine XR_a (op_convI rfl rfl (by simp only [inK]; omega)) rfl rfl ?_ | refine XR_a (op_conv rfl rfl) rfl rfl ?_
    refine XR_as (.int .i64 (e : Int)) (by rw [he]) ?_
    first | refine XR_a (op_addN rfl rfl (by simp only [inK]; omega)) rfl rfl ?_ | refine XR_a (op_addI rfl rfl (by simp only [inK]; omega)) rfl rfl ?_ | refine XR_a (op_add rfl rfl) rfl rfl ?_
    refine XA rfl rfl rfl (XA rfl rfl rfl (XR_nil ?_))
    refine X_ret (.cons (.tmp rfl) (.cons (.tmp rfl) .nil)) ?_
    exact ⟨rfl, st.low⟩
theorem bits_ref {v : Int} (hv : v ≤ 1000) (h0 : Heap) : Ret Try.prog 99 [.int .i64 v] h0 fun r h' => r = .int .i64 (bitsC v.toNat : Nat) ∧ h0 = h' := by
 refine ret_of_X Try.func99 rfl rfl fun w0 hw0 => ?_
 simp only [argE, Nat.zero_add, Nat.reduceAdd]
 refine X_seq (X_reg (XA rfl rfl rfl (XR_nil (X_seq (X_seq (X_reg (XV rfl rfl rfl ?_)))))))
 refine XR_a (op_lss rfl rfl) rfl rfl ?_
 refine XR_nil ?_
 refine X_if rfl (fun h => ?_) (fun h => ?_)
 ·refine X_seq (X_reg (XA rfl rfl rfl (XR_nil ?_)))
  refine X_ret (.cons (.tmp rfl) .nil) ?_
  have e : bitsC v.toNat = 0 := by unfold bitsC; rw [if_pos (by omega)]
  rw [e]
  exact ⟨rfl, rfl⟩
 ·obtain ⟨x, rfl⟩ : ∃ x : Nat, v = x := ⟨v.toNat, by omega⟩
  have e : bitsC x = x / 2 - 1 := by unfold bitsC; rw [if_neg (by omega)]
  rw [Int.toNat_natCast, e]
  refine X_skip (X_seq (X_reg (XV rfl rfl rfl ?_)))
  first | refine XR_a (op_quoN (n := 2) rfl rfl (by omega) (by simp only [inK]; omega)) rfl rfl ?_ | refine XR_a (op_quoI rfl rfl (by omega) (by omega) (by simp only [inK]; omega)) rfl rfl ?_ | refine XR_a (op_quo rfl rfl (by omega)) rfl rfl ?_
  first | refine XR_a (op_subN (n := 1) rfl rfl (by omega) (by simp only [inK]; omega)) rfl rfl ?_ | refine XR_a (op_subI rfl rfl (by simp only [inK]; omega)) rfl rfl ?_ | refine XR_a (op_sub rfl rfl) rfl rfl ?_
  refine XA rfl rfl rfl (XR_nil ?_)
  refine X_ret (.cons (.tmp rfl) .nil) ?_
  exact ⟨rfl, rfl⟩
theorem base_ref {n : Nat} (hn : n ≤ 30) (h0 : Heap) : Ret Try.prog 98 [.int .i64 (n : Int)] h0 fun r h' => r = .int .i64 (baseC n : Nat) ∧ h0 = h' := by
 refine ret_of_X Try.func98 rfl rfl fun w0 hw0 => ?_
 simp only [argE, Nat.zero_add, Nat.reduceAdd]
 refine X_seq (X_reg (XA rfl rfl rfl (XR_nil (X_seq (X_reg (XA rfl rfl rfl (XR_nil (X_seq (X_seq ?_)))))))))
 refine X_reg (XA rfl rfl rfl (XR_nil (X_block ?_)))
 refine X_loop (fun i => n - i) (fun i => [(0, .int .i64 (n : Int)), (3, .int .i64 (baseC i : Nat)), (4, .int .i64 (i : Int))])
  (fun (i : Nat) hp => h0 = hp ∧ i ≤ n) 0 (.cons rfl (.cons rfl (.cons rfl (.nil _)))) ⟨rfl, by omega⟩ ?_
 rintro i hp ⟨rfl, hi⟩
 refine X_seq (X_seq (X_reg (XV rfl rfl rfl (XV rfl rfl rfl ?_))))
 refine XR_a (op_lss rfl rfl) rfl rfl ?_
 refine XR_nil ?_
 refine X_if rfl (fun h => ?_) (fun h => ?_)
 ·have hin : i < n := by omega
  have h30 : i < 30 := by omega
  have hk := bits14 h30
  have hp13 := pow13 hk
  have hbase := base30 h30
  have hp0 := two_lt (bitsC i)
  refine X_skip (X_seq (X_block (X_seq (X_reg (XA rfl rfl rfl (XR_nil (X_seq (X_seq (X_reg ?_)))))))))
  refine XA rfl rfl rfl (XR_nil (X_block ?_))
  refine X_loop (fun k => bitsC i - k) (fun k => [(0, .int .i64 (n : Int)), (3, .int .i64 (baseC i : Nat)), (4, .int .i64 (i : Int)), (5, .int .i64 ((2 ^ k : Nat) : Int)), (6, .int .i64 (k : Int))])
   (fun (k : Nat) hp => h0 = hp ∧ k ≤ bitsC i) 0 (.cons rfl (.cons rfl (.cons rfl (.cons rfl (.cons rfl (.nil _)))))) ⟨rfl, by omega⟩ ?_
  rintro k hp ⟨rfl, hki⟩
  refine X_seq (X_seq (X_reg (XV rfl rfl rfl (XV rfl rfl rfl ?_))))
  refine XR_wa (opl_call (bits_ref (by omega) _) rfl (by kernel_rfl)) rfl rfl rfl ?_
  rintro _ _ ⟨rfl, rfl⟩
  rw [Int.toNat_natCast]
  refine XR_a (op_lss rfl rfl) rfl rfl ?_
  refine XR_nil ?_
  refine X_if rfl (fun h => ?_) (fun h => ?_)
  ·have hk1 := pow13 (k := k) (by omega)
   refine X_skip (X_seq (X_block (X_reg (XV rfl rfl rfl ?_))))
   refine XR_a (op_mulN (m := 2 ^ k) (n := 2) rfl rfl (by simp only [inK]; omega)) rfl rfl ?_
   refine XA rfl rfl rfl (XR_nil (X_blk (X_reg (XV rfl rfl rfl ?_))))
   first | refine XR_a (op_addN (n := 1) rfl rfl (by simp only [inK]; omega)) rfl rfl ?_ | refine XR_a (op_addI rfl rfl (by simp only [inK]; omega)) rfl rfl ?_ | refine XR_a (op_add rfl rfl) rfl rfl ?_
   refine XA rfl rfl rfl (XR_nil ?_)
   exact X_again (k + 1) (.cons rfl (.cons rfl (.cons rfl (.cons rfl (.cons rfl (.nil _)))))) ⟨rfl, by omega⟩ (by omega)
  ·obtain rfl : k = bitsC i := by omega
   refine X_exit rfl (X_reg (XV rfl rfl rfl (XV rfl rfl rfl ?_)))
   first | refine XR_a (op_addN rfl rfl (by simp only [inK]; omega)) rfl rfl ?_ | refine XR_a (op_addI rfl rfl (by simp only [inK]; omega)) rfl rfl ?_ | refine XR_a (op_add rfl rfl) rfl rfl ?_
   refine XA rfl rfl rfl (XR_nil (X_blk (X_reg (XV rfl rfl rfl ?_))))
   first | refine XR_a (op_addN (n := 1) rfl rfl (by simp only [inK]; omega)) rfl rfl ?_ | refine XR_a (op_addI rfl rfl (by simp only [inK]; omega)) rfl rfl ?_ | refine XR_a (op_add rfl rfl) rfl rfl ?_
   refine XA rfl rfl rfl (XR_nil ?_)
   exact X_again (i + 1) (.cons rfl (.cons rfl (.cons rfl (.nil _)))) ⟨rfl, by omega⟩ (by omega)
 ·obtain rfl : i = n := by omega
  refine X_exit rfl (X_seq (X_reg (XV rfl rfl rfl (XA rfl rfl rfl (XR_nil ?_)))))
  refine X_ret (.cons (.tmp rfl) .nil) ?_
  exact ⟨rfl, rfl⟩
theorem of_ref {v : Nat} (hv : v < 32768) (h0 : Heap) : Ret Try.prog 75 [.int .i64 (v : Int)] h0 fun r h' => r = .agg (clsV (klsOf v)).toArray ∧ Ext h0 h' := by
 refine ret_of_X Try.func75 rfl rfl fun w0 hw0 => ?_
 simp only [argE, Nat.zero_add, Nat.reduceAdd]
 have st := St.start h0
 refine X_seq (X_reg ?_)
 refine XR_wa (opl_new rfl) rfl rfl rfl ?_
 rintro _ hp ⟨pp1, rfl, hnew⟩
 replace st := st.new hnew
 refine XR_nil (X_seq (X_reg (XA rfl rfl rfl (XR_nil (X_seq (X_seq (X_reg (XA rfl rfl rfl (XR_nil ?_)))))))))
 refine X_block ?_
 refine X_loop (fun i => 30 - i) (fun i => [(0, .int .i64 (v : Int)), (2, .pointer (some ⟨pp1, 0, none⟩)), (3, .int .i64 (lastC v i : Nat)), (4, .int .i64 (i : Int))])
  (fun (i : Nat) hp => St h0.size h0 hp [pt pp1 94 (clsV Kls.nil)] ∧ i ≤ 30) 0 (.cons rfl (.cons rfl (.cons rfl (.cons rfl (.nil _))))) ⟨st, by omega⟩ ?_
 clear st hnew
 rintro i hp ⟨st, hi⟩
 refine X_seq (X_seq (X_reg (XV rfl rfl rfl ?_)))
 refine XR_a (op_lss rfl rfl) rfl rfl ?_
 refine XR_nil ?_
 refine X_if rfl (fun h => ?_) (fun h => ?_)
 ·refine X_skip (X_seq (X_block (X_seq (X_reg (XV rfl rfl rfl ?_)))))
  refine XR_wa (opl_call (base_ref (n := i) (by omega) _) rfl (by kernel_rfl)) rfl rfl rfl ?_
  rintro _ _ ⟨rfl, rfl⟩
  refine XV rfl rfl rfl ?_
  refine XR_a (op_leq rfl rfl) rfl rfl ?_
  refine XR_nil ?_
  refine X_if rfl (fun h => ?_) (fun h => ?_)
  ·refine X_reg (XV rfl rfl rfl (XA rfl rfl rfl (XR_nil (X_blk (X_reg (XV rfl rfl rfl ?_))))))
   first | refine XR_a (op_addN (n := 1) rfl rfl (by simp only [inK]; omega)) rfl rfl ?_ | refine XR_a (op_addI rfl rfl (by simp only [inK]; omega)) rfl rfl ?_ | refine XR_a (op_add rfl rfl) rfl rfl ?_
   refine XA rfl rfl rfl (XR_nil ?_)
   refine X_again (i + 1) (.cons rfl (.cons rfl (.cons (congrArg (fun x : Nat => some (Value.int .i64 (x : Int))) ?_) (.cons rfl (.nil _))))) ⟨st, by omega⟩ (by omega)
   show i = lastC v (i + 1)
   rw [lastC, if_pos (by omega)]
  ·refine X_skip (X_blk (X_reg (XV rfl rfl rfl ?_)))
   first | refine XR_a (op_addN (n := 1) rfl rfl (by simp only [inK]; omega)) rfl rfl ?_ | refine XR_a (op_addI rfl rfl (by simp only [inK]; omega)) rfl rfl ?_ | refine XR_a (op_add rfl rfl) rfl rfl ?_
   refine XA rfl rfl rfl (XR_nil ?_)
   refine X_again (i + 1) (.cons rfl (.cons rfl (.cons (congrArg (fun x : Nat => some (Value.int .i64 (x : Int))) ?_) (.cons rfl (.nil _))))) ⟨st, by omega⟩ (by omega)
   show lastC v i = lastC v (i + 1)
   rw [lastC, if_neg (by omega)]
 ·obtain rfl : i = 30 := by omega
  rw [lastC_kls hv]
  obtain ⟨g1, g2, g3⟩ := klsN_between v
  have g3 := g3 hv
  have hD : klsOf v = ⟨klsN v, bitsC (klsN v), ((v - baseC (klsN v) : Nat) : Int)⟩ := rfl
  refine X_exit rfl (X_seq (X_reg (XV rfl rfl rfl (XV rfl rfl rfl ?_))))
  refine XR_wa (opl_call (bits_ref (by omega) _) rfl (by kernel_rfl)) rfl rfl rfl ?_
  rintro _ _ ⟨rfl, rfl⟩
  rw [Int.toNat_natCast]
  refine XV rfl rfl rfl (XV rfl rfl rfl ?_)
  refine XR_wa (opl_call (base_ref (n := klsN v) (by omega) _) rfl (by kernel_rfl)) rfl rfl rfl ?_
  rintro _ _ ⟨rfl, rfl⟩
  first | refine XR_a (op_subN rfl rfl (by omega) (by simp only [inK]; omega)) rfl rfl ?_ | refine XR_a (op_subI rfl rfl (by simp only [inK]; omega)) rfl rfl ?_ | refine XR_a (op_sub rfl rfl) rfl rfl ?_
  first | refine XR_a (op_convI rfl rfl (by simp only [inK]; omega)) rfl rfl ?_ | refine XR_a (op_convU rfl rfl rfl) rfl rfl ?_ | refine XR_a (op_conv rfl rfl) rfl rfl ?_
  refine XR_a (op_build (ps := [(0, .int .i64 (klsN v : Nat)), (1, .int .i64 (bitsC (klsN v) : Nat)), (2, .int .u32 ((v - baseC (klsN v) : Nat) : Int))]) (cs := (clsV (klsOf v)).toArray) rfl rfl) rfl rfl ?_
  generalize klsOf v = D at *
  refine XR_wn (opl_store_whole (us := clsV D) st 0 rfl rfl rfl rfl rfl (clsV_one _) rfl) rfl rfl fun _ hp st => ?_
  simp only [List.set_cons_zero, List.set_cons_succ] at st
  refine XR_nil ?_
  refine X_ret (.cons (RV_agg (vs := clsV D) rfl rfl rfl (st.cells 0 rfl)) .nil) ?_
  exact ⟨rfl, st.low⟩
end Go.Bn
end

section
set_option linter.unusedVariables false
set_option linter.unusedSimpArgs false
set_option maxHeartbeats 4000000
set_option maxRecDepth 20000
namespace Go.Bn
open Go Proofs
theorem tdepth_spec (lv : Int) (h0 : Heap) : Ret Try.prog 59 [.int .i64 lv] h0 fun v h' => v = nV (depthM lv) ∧ h0 = h' := by
 refine ret_of_X Try.func59 rfl rfl fun w0 hw0 => ?_
 simp only [argE, Nat.zero_add, Nat.reduceAdd]
 refine X_seq (X_reg (XA rfl rfl rfl (XR_nil (X_seq (X_seq (X_reg (XV rfl rfl rfl ?_)))))))
 refine XR_a (op_min2 rfl rfl) rfl rfl ?_
 refine XR_a (op_max2 rfl rfl) rfl rfl ?_
 refine XR_nil (X_block (X_seq (X_reg ?_)))
 refine XR_a (op_eql rfl rfl) rfl rfl ?_
 refine XA rfl rfl rfl (XR_nil ?_)
 refine X_if rfl (fun h => ?_) (fun h => ?_)
 ·refine X_seq (X_reg (XA rfl rfl rfl (XR_nil ?_)))
  refine X_ret (.cons (.tmp rfl) .nil) ?_
  exact ⟨by rw [show depthM lv = 1 by unfold depthM; rw [if_pos (by omega)]]; rfl, rfl⟩
 ·refine X_seq (X_reg ?_)
  refine XR_a (op_eql rfl rfl) rfl rfl ?_
  refine XA rfl rfl rfl (XR_nil ?_)
  refine X_if rfl (fun h => ?_) (fun h => ?_)
  ·refine X_seq (X_reg (XA rfl rfl rfl (XR_nil ?_)))
   refine X_ret (.cons (.tmp rfl) .nil) ?_
   exact ⟨by rw [show depthM lv = 4 by unfold depthM; rw [if_neg (by omega), if_pos (by omega)]]; rfl, rfl⟩
  ·refine X_seq (X_reg ?_)
   refine XR_a (op_eql rfl rfl) rfl rfl ?_
   refine XA rfl rfl rfl (XR_nil ?_)
   refine X_if rfl (fun h => ?_) (fun h => ?_)
   ·refine X_seq (X_reg (XA rfl rfl rfl (XR_nil ?_)))
    refine X_ret (.cons (.tmp rfl) .nil) ?_
    exact ⟨by rw [show depthM lv = 32 by unfold depthM; rw [if_neg (by omega), if_neg (by omega), if_pos (by omega)]]; rfl, rfl⟩
   ·refine X_skip (X_blk (X_seq (X_reg (XA rfl rfl rfl (XR_nil ?_)))))
    refine X_ret (.cons (.tmp rfl) .nil) ?_
    exact ⟨by rw [show depthM lv = 256 by unfold depthM; rw [if_neg (by omega), if_neg (by omega), if_neg (by omega)]]; rfl, rfl⟩
@[reducible] def spC (A : Option Addr) (n c pf : Nat) (lv : Int) : List Value := [.slice A n c, .pointer (some ⟨pf, 0, none⟩), nV (depthM lv), .bool (decide (2 ≤ lv))]
theorem tnext_spec {B ps pf n c u a : Nat} {lv : Int} {A : Option Addr} {b : List UInt8} {F : List Res} {h0 : Heap} (st0 : St B h0 h0 (pt ps 111 (spC A n c pf lv) :: finR pf A n c u b :: F)) (hrB : ∀ h', Low B h0 h' → Rd h' A (b.map byteV)) (hl : b.length = n) (hn : n ≤ 1099511627776) (hu : u ≤ n) (ha : a < n) :
  Ret Try.prog 60 [.pointer (some ⟨ps, 0, none⟩), nV a] h0 fun v h' => v = .agg (tokV (tokM b lv a)).toArray ∧ ∃ u', u' ≤ n ∧ St B h0 h' (pt ps 111 (spC A n c pf lv) :: finR pf A n c u' b :: F) := by
 obtain ⟨T, hT⟩ : ∃ T, tokM b lv a = T := ⟨_, rfl⟩
 rw [hT]
 unfold tokM at hT
 have hdm := depthM_ok lv
 obtain ⟨R, hR⟩ : ∃ R, bestM b a (depthM lv) = R := ⟨_, rfl⟩
 obtain ⟨R2, hR2⟩ : ∃ R, bestM b (a + 1) (depthM lv) = R := ⟨_, rfl⟩
 rw [hR, hR2, getD_at (by omega)] at hT
 refine ret_of_X Try.func60 rfl rfl fun w0 hw0 => ?_
 simp only [argE, Nat.zero_add, Nat.reduceAdd]
 have st := st0
 refine X_seq (X_reg ?_)
 refine XR_wa (opl_new rfl) rfl rfl rfl ?_
 rintro _ hp ⟨p4, rfl, hnew⟩
 replace st := st.new hnew
 replace st : St B h0 hp (pt p4 64 (tokV Tok.nil) :: pt ps 111 (spC A n c pf lv) :: finR pf A n c u b :: F) := st
 refine XR_nil (X_seq ?_)
 refine X_draw byKind (by kernel_rfl) (by kernel_rfl) ?_
 refine XV rfl rfl rfl (XR_a (op_nilCheck rfl) rfl rfl ?_)
 first | refine XR_a (op_field0 rfl rfl) rfl rfl ?_ | refine XR_a (op_fieldn rfl rfl) rfl rfl ?_
 refine XR_a (op_ld (st.cell 1 (i := 1) rfl rfl) rfl rfl rfl) rfl rfl ?_
 refine XV rfl rfl rfl (XV rfl rfl rfl (XR_a (op_nilCheck rfl) rfl rfl ?_))
 first | refine XR_a (op_field0 rfl rfl) rfl rfl ?_ | refine XR_a (op_fieldn rfl rfl) rfl rfl ?_
 refine XR_a (op_ld (st.cell 1 (i := 2) rfl rfl) rfl rfl rfl) rfl rfl ?_
 refine XR_wa (opl_call (mfind_spec (St.reF [_, _, _] 3 (F := F) st.here [2, 0, 1] (by decide)) (fun h' hh => hrB h' (st.low.trans hh)) hl hn hu (by omega) hdm) rfl (by kernel_rfl)) rfl rfl rfl ?_
 rintro _ hp4 ⟨rfl, u1, hu1, st2⟩
 replace st := st.trans (St.reF [_, _, _] 3 (F := F) st2 [1, 2, 0] (by decide))
 simp only [List.map_cons, List.map_nil, getR, List.cons_append, List.nil_append] at st
 clear st2
 rw [hR]
 refine XV rfl rfl rfl (XR_a (op_extract rfl rfl) rfl rfl (XR_a (op_extract rfl rfl) rfl rfl (XA rfl rfl rfl (XA rfl rfl rfl (XR_nil (X_seq (X_seq (X_reg (XV rfl rfl rfl ?_)))))))))
 refine XR_a (op_eql rfl rfl) rfl rfl ?_
 refine XR_nil ?_
 refine X_if rfl (fun h => ?_) (fun h => ?_)
 ·rw [if_pos (.inl (by omega))] at hT
  subst hT
  obtain ⟨g, o, rfl, hc⟩ := (hrB _ st.low).at_ (by rw [List.length_map]; omega)
  have hci := hc a _ (by rw [List.getElem?_map, List.getElem?_eq_getElem (by omega)]; rfl)
  refine X_seq (X_reg (XV rfl rfl rfl (XR_a (op_nilCheck rfl) rfl rfl ?_)))
  first | refine XR_a (op_field0 rfl rfl) rfl rfl ?_ | refine XR_a (op_fieldn rfl rfl) rfl rfl ?_
  refine XR_a (op_ld (st.cell 1 (i := 0) rfl rfl) rfl rfl rfl) rfl rfl ?_
  refine XV rfl rfl rfl ?_
  refine XR_a (op_index1 (i := a) rfl rfl rfl (by omega)) rfl rfl ?_
  refine XR_a (op_ld (hci) rfl rfl rfl) rfl rfl ?_
  refine XR_a (op_build (ps := [(0, .int .u8 ((b[a]'(by omega)).toNat : Int))]) (cs := (tokV ⟨((b[a]'(by omega)).toNat : Int), 0, 0⟩).toArray) rfl rfl) rfl rfl ?_
  refine XR_wn (opl_store_whole (us := tokV ⟨((b[a]'(by omega)).toNat : Int), 0, 0⟩) st 0 rfl rfl rfl rfl rfl (tokV_one _) rfl) rfl rfl fun _ hp st => ?_
  simp only [List.set_cons_zero, List.set_cons_succ] at st
  refine XR_nil ?_
  refine X_ret (.cons (RV_agg (vs := tokV _) rfl rfl rfl (st.cells 0 rfl)) .nil) ?_
  exact ⟨rfl, u1, hu1, st.tail⟩
 ·refine X_skip (X_seq (X_seq (X_reg (XV rfl rfl rfl (XR_a (op_nilCheck rfl) rfl rfl ?_)))))
  first | refine XR_a (op_field0 rfl rfl) rfl rfl ?_ | refine XR_a (op_fieldn rfl rfl) rfl rfl ?_
  refine XR_a (op_ld (st.cell 1 (i := 3) rfl rfl) rfl rfl rfl) rfl rfl ?_
  refine XV rfl rfl rfl ?_
  refine XR_if 36 rfl (fun h => ?_) (fun h => ?_)
  ·refine XV rfl rfl rfl ?_
   refine XR_a (op_lss rfl rfl) rfl rfl ?_
   refine XR_a (op_pick_t rfl rfl) rfl rfl (XR_nil ?_)
   refine X_if rfl (fun h => ?_) (fun h => ?_)
   ·refine X_seq ?_
    refine X_draw byKind (by kernel_rfl) (by kernel_rfl) ?_
    refine XV rfl rfl rfl (XR_a (op_nilCheck rfl) rfl rfl ?_)
    first | refine XR_a (op_field0 rfl rfl) rfl rfl ?_ | refine XR_a (op_fieldn rfl rfl) rfl rfl ?_
    refine XR_a (op_ld (st.cell 1 (i := 1) rfl rfl) rfl rfl rfl) rfl rfl ?_
    refine XV rfl rfl rfl ?_
    first | refine XR_a (op_addN (n := 1) rfl rfl (by simp only [inK]; omega)) rfl rfl ?_ | refine XR_a (op_addI rfl rfl (by simp only [inK]; omega)) rfl rfl ?_ | refine XR_a (op_add rfl rfl) rfl rfl ?_
    refine XV rfl rfl rfl (XR_a (op_nilCheck rfl) rfl rfl ?_)
    first | refine XR_a (op_field0 rfl rfl) rfl rfl ?_ | refine XR_a (op_fieldn rfl rfl) rfl rfl ?_
    refine XR_a (op_ld (st.cell 1 (i := 2) rfl rfl) rfl rfl rfl) rfl rfl ?_
    refine XR_wa (opl_call (mfind_spec (St.reF [_, _, _] 3 (F := F) st.here [2, 0, 1] (by decide)) (fun h' hh => hrB h' (st.low.trans hh)) hl hn hu1 (by omega) hdm) rfl (by kernel_rfl)) rfl rfl rfl ?_
    rintro _ hp5 ⟨rfl, u2, hu2, st2⟩
    replace st := st.trans (St.reF [_, _, _] 3 (F := F) st2 [1, 2, 0] (by decide))
    simp only [List.map_cons, List.map_nil, getR, List.cons_append, List.nil_append] at st
    clear st2
    rw [hR2]
    refine XV rfl rfl rfl (XR_a (op_extract rfl rfl) rfl rfl (XR_a (op_extract rfl rfl) rfl rfl (XA rfl rfl rfl (XA rfl rfl rfl (XR_nil (X_seq (X_reg (XV rfl rfl rfl (XV rfl rfl rfl ?_)))))))))
    refine XR_a (op_gtr rfl rfl) rfl rfl ?_
    refine XR_nil ?_
    refine X_if rfl (fun h => ?_) (fun h => ?_)
    ·rw [if_pos (.inr ⟨by omega, by omega, by omega⟩)] at hT
     subst hT
     obtain ⟨g, o, rfl, hc⟩ := (hrB _ st.low).at_ (by rw [List.length_map]; omega)
     have hci := hc a _ (by rw [List.getElem?_map, List.getElem?_eq_getElem (by omega)]; rfl)
     refine X_seq (X_reg (XV rfl rfl rfl (XR_a (op_nilCheck rfl) rfl rfl ?_)))
     first | refine XR_a (op_field0 rfl rfl) rfl rfl ?_ | refine XR_a (op_fieldn rfl rfl) rfl rfl ?_
     refine XR_a (op_ld (st.cell 1 (i := 0) rfl rfl) rfl rfl rfl) rfl rfl ?_
     refine XV rfl rfl rfl ?_
     refine XR_a (op_index1 (i := a) rfl rfl rfl (by omega)) rfl rfl ?_
     refine XR_a (op_ld (hci) rfl rfl rfl) rfl rfl ?_
     refine XR_a (op_build (ps := [(0, .int .u8 ((b[a]'(by omega)).toNat : Int))]) (cs := (tokV ⟨((b[a]'(by omega)).toNat : Int), 0, 0⟩).toArray) rfl rfl) rfl rfl ?_
     refine XR_wn (opl_store_whole (us := tokV ⟨((b[a]'(by omega)).toNat : Int), 0, 0⟩) st 0 rfl rfl rfl rfl rfl (tokV_one _) rfl) rfl rfl fun _ hp st => ?_
     simp only [List.set_cons_zero, List.set_cons_succ] at st
     refine XR_nil ?_
     refine X_ret (.cons (RV_agg (vs := tokV _) rfl rfl rfl (st.cells 0 rfl)) .nil) ?_
     exact ⟨rfl, u2, hu2, st.tail⟩
    ·rw [if_neg (by omega)] at hT
     subst hT
     refine X_skip (X_seq (X_reg (XV rfl rfl rfl (XV rfl rfl rfl ?_))))
     refine XR_a (op_build (ps := [(1, nV R.1), (2, nV R.2)]) (cs := (tokV ⟨0, (R.1 : Int), (R.2 : Int)⟩).toArray) rfl rfl) rfl rfl ?_
     refine XR_wn (opl_store_whole (us := tokV ⟨0, (R.1 : Int), (R.2 : Int)⟩) st 0 rfl rfl rfl rfl rfl (tokV_one _) rfl) rfl rfl fun _ hp st => ?_
     simp only [List.set_cons_zero, List.set_cons_succ] at st
     refine XR_nil ?_
     refine X_ret (.cons (RV_agg (vs := tokV _) rfl rfl rfl (st.cells 0 rfl)) .nil) ?_
     exact ⟨rfl, _, by assumption, st.tail⟩
   ·rw [if_neg (by omega)] at hT
    subst hT
    refine X_skip (X_seq (X_reg (XV rfl rfl rfl (XV rfl rfl rfl ?_))))
    refine XR_a (op_build (ps := [(1, nV R.1), (2, nV R.2)]) (cs := (tokV ⟨0, (R.1 : Int), (R.2 : Int)⟩).toArray) rfl rfl) rfl rfl ?_
    refine XR_wn (opl_store_whole (us := tokV ⟨0, (R.1 : Int), (R.2 : Int)⟩) st 0 rfl rfl rfl rfl rfl (tokV_one _) rfl) rfl rfl fun _ hp st => ?_
    simp only [List.set_cons_zero, List.set_cons_succ] at st
    refine XR_nil ?_
    refine X_ret (.cons (RV_agg (vs := tokV _) rfl rfl rfl (st.cells 0 rfl)) .nil) ?_
    exact ⟨rfl, _, by assumption, st.tail⟩
  ·rw [if_neg (by omega)] at hT
   subst hT
   refine XR_no rfl rfl (XR_no rfl rfl (XR_a (op_pick_f rfl rfl) rfl rfl (XR_nil (X_else rfl (X_skip (X_seq (X_reg (XV rfl rfl rfl (XV rfl rfl rfl ?_)))))))))
   refine XR_a (op_build (ps := [(1, nV R.1), (2, nV R.2)]) (cs := (tokV ⟨0, (R.1 : Int), (R.2 : Int)⟩).toArray) rfl rfl) rfl rfl ?_
   refine XR_wn (opl_store_whole (us := tokV ⟨0, (R.1 : Int), (R.2 : Int)⟩) st 0 rfl rfl rfl rfl rfl (tokV_one _) rfl) rfl rfl fun _ hp st => ?_
   simp only [List.set_cons_zero, List.set_cons_succ] at st
   refine XR_nil ?_
   refine X_ret (.cons (RV_agg (vs := tokV _) rfl rfl rfl (st.cells 0 rfl)) .nil) ?_
   exact ⟨rfl, _, by assumption, st.tail⟩
theorem teach_spec {n c : Nat} {lv : Int} {A : Option Addr} {h0 : Heap} : Ret Try.prog 36 [.slice A n c, .int .i64 lv] h0 fun v h' => ∃ p1 p2, v = .func (.func 57) #[] #[.pointer (some ⟨p1, 0, none⟩), .pointer (some ⟨p2, 0, none⟩)] ∧ St h0.size h0 h' [pt p2 3 [.int .i64 lv], pt p1 22 [.slice A n c]] := by
 refine ret_of_X Try.func36 rfl rfl fun w0 hw0 => ?_
 simp only [argE, Nat.zero_add, Nat.reduceAdd]
 have st := St.start h0
 refine X_seq (X_reg ?_)
 refine XR_wa (opl_bx rfl rfl) rfl rfl rfl ?_
 rintro _ hp ⟨p1, rfl, hnew⟩
 replace st := st.new hnew
 refine XR_wa (opl_bx rfl rfl) rfl rfl rfl ?_
 rintro _ hp ⟨p2, rfl, hnew⟩
 replace st := st.new hnew
 refine XA rfl rfl rfl (XR_nil (X_seq (X_reg ?_)))
 refine XR_a (op_mkFunc rfl) rfl rfl ?_
 refine XA rfl rfl rfl (XR_nil ?_)
 refine X_ret (.cons (.tmp rfl) .nil) ?_
 exact ⟨_, _, rfl, st⟩
theorem splitF_step {b : List UInt8} {lv : Int} {a : Nat} (ha : a < b.length) : splitF b lv (b.length - a) a = tokM b lv a :: splitF b lv (b.length - (a + (tokM b lv a).size)) (a + (tokM b lv a).size) := by
 obtain ⟨_, _, _, h4, _⟩ := tokM_ok (lv := lv) ha
 have hp := Tok.size_pos (tokM b lv a)
 obtain ⟨g, hg⟩ : ∃ g, b.length - a = g + 1 := ⟨b.length - a - 1, by omega⟩
 rw [hg, splitF, if_pos ha, splitF_fuel g (b.length - (a + (tokM b lv a).size)) _ h4 (by omega) (by omega)]
theorem splitF_end {b : List UInt8} {lv : Int} {f a : Nat} (ha : b.length ≤ a) : splitF b lv f a = [] := by
 cases f with
 | zero => rfl
 | succ f => rw [splitF, if_neg (by omega)]
theorem teach_iter {B y p1 p2 n c : Nat} {lv : Int} {A : Option Addr} {b : List UInt8} {F : List Res} {h0 : Heap} (JR : List Tok → List Res) (st0 : St B h0 h0 (pt p2 3 [.int .i64 lv] :: pt p1 22 [.slice A n c] :: (JR [] ++ F)))
  (hrB : ∀ h', Low B h0 h' → Rd h' A (b.map byteV)) (hl : b.length = n) (hn : n ≤ 1099511627776)
  (hround : ∀ (s : List Tok) (x : Tok) (r : List Tok) (F' : List Res) (h : Heap), Low B h0 h → s ++ x :: r = splitL b lv → St B h h (JR s ++ F') → RRet Try.prog y [.agg (tokV x).toArray] h fun u h' => u = .bool true ∧ St B h h' (JR (s ++ [x]) ++ F')) :
  Ret Try.prog 57 [.func (.yield y) #[] #[], .pointer (some ⟨p1, 0, none⟩), .pointer (some ⟨p2, 0, none⟩)] h0 fun _ h' => St B h0 h' (JR (splitL b lv) ++ F) := by
 refine ret_of_X Try.func57 rfl rfl fun w0 hw0 => ?_
 simp only [argE, Nat.zero_add, Nat.reduceAdd]
 have st := st0
 refine X_seq ?_
 refine X_draw_in (butAt [(2, .grow), (4, .grow)]) [0, 1, 3, 5, 6, 2, 4, 7, 8, 9] (by kernel_rfl) (by kernel_rfl) rfl ?_
 refine XR_a (op_ld (st.cell 1 (i := 0) rfl rfl) rfl rfl rfl) rfl rfl ?_
 refine XR_a (op_ld (st.cell 1 (i := 0) rfl rfl) rfl rfl rfl) rfl rfl ?_
 refine XR_a (op_ld (st.cell 0 (i := 0) rfl rfl) rfl rfl rfl) rfl rfl ?_
 refine XR_a (op_ld (st.cell 0 (i := 0) rfl rfl) rfl rfl rfl) rfl rfl ?_
 refine XR_a (op_geq rfl rfl) rfl rfl ?_
 refine XR_ga (opl_call (mnew_spec (b := b)) rfl (by kernel_rfl)) rfl rfl rfl (fun _ _ ⟨_, _, h⟩ => h.low) ?_
 rintro _ hp1 ⟨pf, rfl, st2⟩
 replace st := st.join st2
 simp only [List.cons_append, List.nil_append] at st
 clear st2
 refine XR_ga (opl_call (tdepth_spec lv _) rfl (by kernel_rfl)) rfl rfl rfl (fun _ _ h => h.2 ▸ Low.refl _ _) ?_
 rintro _ _ ⟨rfl, rfl⟩
 refine XR_a (op_build (ps := [(0, .slice A n c), (1, .pointer (some ⟨pf, 0, none⟩)), (2, nV (depthM lv)), (3, .bool (decide (2 ≤ lv)))]) (cs := (spC A n c pf lv).toArray) rfl rfl) rfl rfl ?_
 refine XR_ga (opl_bx (cs := spC A n c pf lv) rfl rfl) rfl rfl rfl (fun _ _ ⟨_, _, e⟩ => e.1) ?_
 rintro _ hp ⟨ps, rfl, hnew⟩
 replace st := st.new hnew
 refine XA rfl rfl rfl (XR_nil (X_seq (X_reg (XA rfl rfl rfl (XR_nil (X_block ?_))))))
 refine X_loop (fun s => n - s.1) (fun s => [(0, .func (.yield y) #[] #[]), (1, .pointer (some ⟨p1, 0, none⟩)), (2, .pointer (some ⟨p2, 0, none⟩)), (4, .pointer (some ⟨ps, 0, none⟩)), (5, nV s.1)])
  (fun (s : Nat × Nat × List Tok) hp => s.1 ≤ n ∧ s.2.1 ≤ n ∧ s.2.2 ++ splitF b lv (b.length - s.1) s.1 = splitL b lv ∧ St B h0 hp (pt ps 111 (spC A n c pf lv) :: finR pf A n c s.2.1 b :: pt p2 3 [.int .i64 lv] :: pt p1 22 [.slice A n c] :: (JR s.2.2 ++ F)))
  (0, 0, []) (.cons rfl (.cons rfl (.cons rfl (.cons rfl (.cons rfl (.nil _)))))) ⟨Nat.zero_le _, Nat.zero_le _, rfl, st⟩ ?_
 clear st st0
 rintro ⟨a, u, s⟩ hp ⟨ha, hu, hs, st⟩
 simp only at ha hu hs st ⊢
 refine X_seq (X_seq (X_reg (XV rfl rfl rfl ?_)))
 refine XR_a (op_ld (st.cell 3 (i := 0) rfl rfl) rfl rfl rfl) rfl rfl ?_
 refine XR_a (op_len rfl rfl rfl) rfl rfl ?_
 refine XR_a (op_lss rfl rfl) rfl rfl ?_
 refine XR_nil ?_
 refine X_if rfl (fun h => ?_) (fun h => ?_)
 ·have hal : a < b.length := by omega
  rw [splitF_step hal] at hs
  obtain ⟨hx1, hx2, hx3, hx4, _⟩ := tokM_ok (lv := lv) hal
  have hxs := Tok.size_le hx1
  refine X_skip (X_block (X_seq (X_reg (XV rfl rfl rfl (XV rfl rfl rfl ?_)))))
  refine XR_wa (opl_call (tnext_spec st.here (fun h' hh => hrB h' (st.low.trans hh)) hl hn hu (by omega)) rfl (by kernel_rfl)) rfl rfl rfl ?_
  rintro _ hp2 ⟨rfl, u2, hu2, st2⟩
  replace st := st.trans st2
  clear st2
  obtain ⟨x, hx⟩ : ∃ x, tokM b lv a = x := ⟨_, rfl⟩
  rw [hx] at hs hx1 hx2 hx3 hx4 hxs ⊢
  refine XR_wa (opl_new rfl) rfl rfl rfl ?_
  rintro _ hp ⟨p6, rfl, hnew⟩
  replace st := st.new hnew
  refine XR_wn (opl_store_whole (us := tokV x) st 0 rfl rfl rfl rfl rfl (tokV_one x) rfl) rfl rfl fun _ hp st => ?_
  simp only [List.set_cons_zero] at st
  have st3 := st.perm (List.perm_append_comm_assoc [_, _, _, _, _] (JR s) F)
  refine XR_nil (X_seq (X_seq (X_reg (XV rfl rfl rfl ?_))))
  refine XR_a (op_ldA (vs := tokV x) (st.cells 0 rfl) rfl rfl rfl rfl) rfl rfl ?_
  refine XR_ya (opy_yield rfl (hround s x _ _ _ st3.low hs st3.here) rfl) rfl rfl rfl ?_
  rintro _ hp3 ⟨rfl, st4⟩
  replace st := (st3.trans st4).perm (List.perm_append_comm_assoc (JR (s ++ [x])) [pt p6 64 (tokV x), pt ps 111 (spC A n c pf lv), finR pf A n c u2 b, pt p2 3 [.int .i64 lv], pt p1 22 [.slice A n c]] F)
  first | refine XR_a (op_notd rfl) rfl rfl ?_ | refine XR_a (op_not rfl) rfl rfl ?_
  refine XR_nil (X_else rfl (X_skip (X_reg (XV rfl rfl rfl ?_))))
  first | refine XR_a (op_field0 rfl rfl) rfl rfl ?_ | refine XR_a (op_fieldn rfl rfl) rfl rfl ?_
  refine XR_a (op_ld (st.cell 0 (i := 1) rfl rfl) rfl rfl rfl) rfl rfl ?_
  refine XR_a (op_max2 rfl rfl) rfl rfl ?_
  refine XR_as (nV x.size) (congrArg (Value.int .i64) (by omega)) ?_
  first | refine XR_a (op_addN rfl rfl (by simp only [inK]; omega)) rfl rfl ?_ | refine XR_a (op_addI rfl rfl (by simp only [inK]; omega)) rfl rfl ?_ | refine XR_a (op_add rfl rfl) rfl rfl ?_
  refine XA rfl rfl rfl (XR_nil (X_blk ?_))
  exact X_again (a + x.size, u2, s ++ [x]) (.cons rfl (.cons rfl (.cons rfl (.cons rfl (.cons rfl (.nil _)))))) ⟨by simp only; omega, hu2, by simp only; rw [List.append_assoc]; exact hs, st.tail⟩ (by simp only; omega)
 ·refine X_exit rfl ?_
  refine X_end .nil ?_
  rw [splitF_end (by omega), List.append_nil] at hs
  rw [← hs]
  exact st.tail.tail.tail.tail
theorem appendSeq_toks {B gf : Nat} {lb : List Value} {P : List Tok} {F : List Res} {h0 : Heap} (st0 : St B h0 h0 F) (hc : callOk Try.prog gf = true) (hP : P.length ≤ 1048576)
  (hiter : ∀ (JR : List Tok → List Res) (G : List Res) (y : Nat) (h : Heap), Low B h0 h → St B h h (F ++ (JR [] ++ G)) →
   (∀ (s : List Tok) (x : Tok) (r : List Tok) (F' : List Res) (h' : Heap), Low B h h' → s ++ x :: r = P → St B h' h' (JR s ++ F') → RRet Try.prog y [.agg (tokV x).toArray] h' fun u h'' => u = .bool true ∧ St B h' h'' (JR (s ++ [x]) ++ F')) →
   Ret Try.prog gf (.func (.yield y) #[] #[] :: lb) h fun _ h' => St B h h' (JR P ++ G)) :
  Ret Try.prog 56 [.slice none 0 0, .func (.func gf) #[] lb.toArray] h0 fun v h' => St B h0 h' [Bn.row 64 3 v (P.flatMap tokV)] := by
 refine ret_of_X Try.func56 rfl rfl fun w0 hw0 => ?_
 simp only [argE, Nat.zero_add, Nat.reduceAdd]
 refine X_seq (X_reg ?_)
 refine XR_wa (opl_bx rfl rfl) rfl rfl rfl ?_
 rintro _ hp ⟨p, rfl, hnew⟩
 have st := (st0.new hnew).nilrow 64 3
 refine XA rfl rfl rfl (XR_nil (X_seq (X_seq (X_reg (XV rfl rfl rfl (XR_nil (X_block ?_)))))))
 refine X_rangeS st rfl rfl hc fun fn tmps L y d hp1 hL hok hx1 st1 => ?_
 obtain ⟨JR, hJR⟩ : ∃ JR : List Tok → List Res, JR = fun s => [obj y (L .ready none), exR fun v => starR (Bn.row 64 3 v (s.flatMap tokV)) (pt p 37 [v])] := ⟨_, rfl⟩
 have st2 : St B h0 hp1 (F ++ (JR [] ++ [obj d (.deferred (some []))])) := by
  have s3 : St B h0 hp1 (Bn.row 64 3 (.slice none 0 0) [] :: pt p 37 [.slice none 0 0] :: obj y (L .ready none) :: obj d (.deferred (some [])) :: F) :=
   st1.perm (List.perm_append_comm_assoc [obj y (L .ready none), obj d (.deferred (some []))] [Bn.row 64 3 (.slice none 0 0) [], pt p 37 [.slice none 0 0]] F)
  have s4 : St B h0 hp1 ((exR fun v => starR (Bn.row 64 3 v (([] : List Tok).flatMap tokV)) (pt p 37 [v])) :: obj y (L .ready none) :: obj d (.deferred (some [])) :: F) := St.ex.2 ⟨Value.slice none 0 0, St.star.2 s3⟩
  have s5 := s4.perm ((List.Perm.swap _ _ _).trans (List.perm_append_comm (l₁ := [obj y (L .ready none), exR fun v => starR (Bn.row 64 3 v (([] : List Tok).flatMap tokV)) (pt p 37 [v]), obj d (.deferred (some []))]) (l₂ := F)))
  rw [hJR]; exact s5
 refine Ret.mono (hiter JR [obj d (.deferred (some []))] y hp1 st2.low st2.here ?_) ?_
 ·intro s u0 r F' h hlow hsP st3
  subst hL
  subst hJR
  simp only [List.cons_append, List.nil_append] at st3
  have hsl : s.length < P.length := by rw [← hsP]; simp
  obtain ⟨v9, st3⟩ := St.ex.1 (st3.perm (List.Perm.swap _ _ _))
  have st := (St.star.1 st3)
  refine rret_of_X (st.obj_at 2 rfl) hok rfl rfl fun w0 hw0 => ?_
  simp only [penv]
  refine X_reg ?_
  refine XR_wa (opl_new rfl) rfl rfl rfl ?_
  rintro _ hp ⟨p5, rfl, hnew⟩
  replace st := st.new hnew
  refine XR_wn (opl_store_whole (us := tokV u0) st 0 rfl rfl rfl rfl rfl (tokV_one u0) rfl) rfl rfl fun _ hp st => ?_
  simp only [List.set_cons_zero] at st
  refine XR_nil ?_
  refine X_begin (st.obj_at 3 rfl) ?_
  replace st := st.loop 3 .busy none rfl
  simp only [List.set_cons_zero, List.set_cons_succ] at st
  refine X_block (X_reg ?_)
  refine XR_a (op_ld (st.cell 2 (i := 0) rfl rfl) rfl rfl rfl) rfl rfl ?_
  refine XR_a (op_ldA (vs := tokV u0) (st.cells 0 rfl) rfl rfl rfl rfl) rfl rfl ?_
  refine XR_wa (opl_varA (us := tokV u0) rfl rfl rfl rfl (by kernel_rfl)) rfl rfl rfl ?_
  rintro _ hp ⟨A, rfl, hx, hrd⟩
  replace st := st.ext hx
  refine XR_wa (opl_append st 1 rfl (hrd) (rfl) (tokV_one u0) (by rw [flat_length _ 3 (fun _ => rfl)]; simp [tokV]; omega) rfl rfl rfl rfl rfl rfl rfl) rfl rfl rfl fun v hp st => ?_
  simp only [List.set_cons_zero, List.set_cons_succ] at st
  have e2 : s.flatMap tokV ++ tokV u0 = (s ++ [u0]).flatMap tokV := by rw [List.flatMap_append]; simp
  rw [e2] at st
  obtain ⟨A6, n6, c6, rfl, _⟩ := st.row 1 rfl
  refine XR_wn (opl_store_pt st 2 rfl rfl rfl rfl rfl (rfl)) rfl rfl fun _ hp st => ?_
  simp only [List.set_cons_zero, List.set_cons_succ] at st
  refine XR_nil (X_blk ?_)
  refine X_rnd (st.obj_at 3 rfl) ⟨rfl, ?_⟩
  replace st := st.loop 3 .ready none rfl
  simp only [List.set_cons_zero, List.set_cons_succ] at st
  have s6 := (St.ex.2 ⟨_, St.star.2 st.tail⟩ : St B h _ ((exR fun v => starR (Bn.row 64 3 v ((s ++ [u0]).flatMap tokV)) (pt p 37 [v])) :: _))
  exact s6.perm (List.Perm.swap _ _ _)
 rintro _ h' st3
 subst hJR
 simp only [List.cons_append, List.nil_append] at st3
 refine .inl ⟨_, st2.trans st3, fun hp3 st4 => ?_⟩
 obtain ⟨v9, st4⟩ := St.ex.1 (st4.perm (List.Perm.swap _ _ _))
 have st := St.star.1 st4
 refine X_blk (X_seq (X_reg ?_))
 refine XR_a (op_ld (st.cell 1 (i := 0) rfl rfl) rfl rfl rfl) rfl rfl ?_
 refine XA rfl rfl rfl (XR_nil ?_)
 refine X_retM (d := d) (.cons (.tmp rfl) .nil) ?_ (st.obj_at 3 rfl)
 replace st := st.put 3 (.deferred none) rfl
 exact st.keep 1
theorem collect_toks {B gf : Nat} {lb : List Value} {P : List Tok} {F : List Res} {h0 : Heap} (st0 : St B h0 h0 F) (hc : callOk Try.prog gf = true) (hP : P.length ≤ 1048576)
  (hiter : ∀ (JR : List Tok → List Res) (G : List Res) (y : Nat) (h : Heap), Low B h0 h → St B h h (F ++ (JR [] ++ G)) →
   (∀ (s : List Tok) (x : Tok) (r : List Tok) (F' : List Res) (h' : Heap), Low B h h' → s ++ x :: r = P → St B h' h' (JR s ++ F') → RRet Try.prog y [.agg (tokV x).toArray] h' fun u h'' => u = .bool true ∧ St B h' h'' (JR (s ++ [x]) ++ F')) →
   Ret Try.prog gf (.func (.yield y) #[] #[] :: lb) h fun _ h' => St B h h' (JR P ++ G)) :
  Ret Try.prog 35 [.func (.func gf) #[] lb.toArray] h0 fun v h' => St B h0 h' [Bn.row 64 3 v (P.flatMap tokV)] := by
 refine ret_of_X Try.func35 rfl rfl fun w0 hw0 => ?_
 simp only [argE, Nat.zero_add, Nat.reduceAdd]
 refine X_seq (X_reg (XA rfl rfl rfl (XR_nil (X_seq (X_reg (XV rfl rfl rfl ?_))))))
 refine XR_wa (opl_call (appendSeq_toks st0 hc hP hiter) rfl (by kernel_rfl)) rfl rfl rfl ?_
 rintro v hp h
 refine XA rfl rfl rfl (XR_nil ?_)
 refine X_ret (.cons (.tmp rfl) .nil) ?_
 exact h
theorem tsplit_spec {n c : Nat} {lv : Int} {A : Option Addr} {b : List UInt8} {h0 : Heap} (hr : Rd h0 A (b.map byteV)) (hl : b.length = n) (hn : n ≤ 1048576) :
  Ret Try.prog 15 [.slice A n c, .int .i64 lv] h0 fun v h' => St h0.size h0 h' [row 64 3 v ((splitL b lv).flatMap tokV)] := by
 have hpl : (splitL b lv).length ≤ b.length := by
  obtain ⟨_, _, _, h4, _⟩ := splitF_ok (b := b) (lv := lv) b.length 0 (Nat.zero_le _) (by omega)
  unfold splitL; omega
 refine ret_of_X Try.func15 rfl rfl fun w0 hw0 => ?_
 simp only [argE, Nat.zero_add, Nat.reduceAdd]
 refine X_seq (X_reg (XA rfl rfl rfl (XR_nil (X_seq (X_reg (XV rfl rfl rfl (XV rfl rfl rfl ?_)))))))
 refine XR_wa (opl_call (teach_spec) rfl (by kernel_rfl)) rfl rfl rfl ?_
 rintro _ hp ⟨p1, p2, rfl, st⟩
 refine XR_wa (opl_call (collect_toks (P := splitL b lv) (lb := [.pointer (some ⟨p1, 0, none⟩), .pointer (some ⟨p2, 0, none⟩)]) st.here (by kernel_rfl) (by omega) (fun JR G y h hlow s hround => teach_iter JR s (fun h' hh => hr.ext ((st.low.trans hlow).trans hh)) hl (by omega) hround)) rfl (by kernel_rfl)) rfl rfl rfl ?_
 rintro v hp2 st2
 refine XA rfl rfl rfl (XR_nil ?_)
 refine X_ret (.cons (.tmp rfl) .nil) ?_
 exact st.trans st2
end Go.Bn
end

section
set_option linter.unusedVariables false
set_option linter.unusedSimpArgs false
set_option maxHeartbeats 4000000
set_option maxRecDepth 20000
namespace Go.Bn
open Go Proofs
theorem tin_spec (a b c : Int) (h0 : Heap) : Ret Try.prog 102 [.int .i64 a, .int .i64 b, .int .i64 c] h0 fun r h' => r = .bool (decide (b ≤ a ∧ a ≤ c)) ∧ h0 = h' := by
 refine ret_of_X Try.func102 rfl rfl fun w0 hw0 => ?_
 simp only [argE, Nat.zero_add, Nat.reduceAdd]
 refine X_seq (X_reg (XA rfl rfl rfl (XR_nil (X_seq (X_reg (XV rfl rfl rfl (XV rfl rfl rfl ?_)))))))
 refine XR_a (op_geq rfl rfl) rfl rfl ?_
 refine XV rfl rfl rfl ?_
 refine XR_if 10 rfl (fun h => ?_) (fun h => ?_)
 ·refine XV rfl rfl rfl (XV rfl rfl rfl ?_)
  refine XR_a (op_leq rfl rfl) rfl rfl ?_
  refine XR_a (op_pick_t rfl rfl) rfl rfl (XA rfl rfl rfl (XR_nil ?_))
  refine X_ret (.cons (.tmp rfl) .nil) ?_
  first
   | exact ⟨congrArg Value.bool (decide_eq_false (by omega)).symm, rfl⟩
   | exact ⟨congrArg Value.bool (decide_eq_decide.2 ⟨fun hh => by omega, fun hh => by omega⟩), rfl⟩
 ·refine XR_no rfl rfl (XR_no rfl rfl (XR_no rfl rfl (XR_a (op_pick_f rfl rfl) rfl rfl (XA rfl rfl rfl (XR_nil ?_)))))
  refine X_ret (.cons (.tmp rfl) .nil) ?_
  first
   | exact ⟨congrArg Value.bool (decide_eq_false (by omega)).symm, rfl⟩
   | exact ⟨congrArg Value.bool (decide_eq_decide.2 ⟨fun hh => by omega, fun hh => by omega⟩), rfl⟩
theorem tright_spec (t : Tok) (h0 : Heap) : Ret Try.prog 78 [.agg #[.int .u8 t.byte, .int .i64 t.len, .int .i64 t.dist]] h0 fun r h' => r = .bool (decide t.right) ∧ Ext h0 h' := by
 refine ret_of_X Try.func78 rfl rfl fun w0 hw0 => ?_
 simp only [argE, Nat.zero_add, Nat.reduceAdd]
 have st := St.start h0
 unfold Tok.right
 refine X_seq (X_reg ?_)
 refine XR_wa (opl_bx rfl rfl) rfl rfl rfl ?_
 rintro _ hp ⟨p, rfl, hnew⟩
 have st := st.new hnew
 refine XA rfl rfl rfl (XR_nil (X_seq (X_seq (X_reg ?_))))
 first | refine XR_a (op_field0 rfl rfl) rfl rfl ?_ | refine XR_a (op_fieldn rfl rfl) rfl rfl ?_
 refine XR_a (op_ld (st.cell 0 (i := 1) rfl rfl) rfl rfl rfl) rfl rfl ?_
 refine XR_a (op_eql rfl rfl) rfl rfl ?_
 refine XR_nil ?_
 refine X_if rfl (fun h => ?_) (fun h => ?_)
 ·refine X_seq (X_reg ?_)
  first | refine XR_a (op_field0 rfl rfl) rfl rfl ?_ | refine XR_a (op_fieldn rfl rfl) rfl rfl ?_
  refine XR_a (op_ld (st.cell 0 (i := 2) rfl rfl) rfl rfl rfl) rfl rfl ?_
  refine XR_a (op_eql rfl rfl) rfl rfl ?_
  refine XA rfl rfl rfl (XR_nil ?_)
  refine X_ret (.cons (.tmp rfl) .nil) ?_
  refine ⟨congrArg Value.bool (decide_eq_decide.2 ?_), st.low⟩
  rw [if_pos h]
 ·have hlen := h
  refine X_skip (X_seq (X_reg ?_))
  first | refine XR_a (op_field0 rfl rfl) rfl rfl ?_ | refine XR_a (op_fieldn rfl rfl) rfl rfl ?_
  refine XR_a (op_ld (st.cell 0 (i := 0) rfl rfl) rfl rfl rfl) rfl rfl ?_
  refine XR_a (op_eql rfl rfl) rfl rfl ?_
  refine XV rfl rfl rfl ?_
  refine XR_if 12 rfl (fun h => ?_) (fun h => ?_)
  ·first | refine XR_a (op_field0 rfl rfl) rfl rfl ?_ | refine XR_a (op_fieldn rfl rfl) rfl rfl ?_
   refine XR_a (op_ld (st.cell 0 (i := 1) rfl rfl) rfl rfl rfl) rfl rfl ?_
   refine XR_wa (opl_call (tin_spec _ _ _ _) rfl (by kernel_rfl)) rfl rfl rfl ?_
   rintro _ _ ⟨rfl, rfl⟩
   refine XR_a (op_pick_t rfl rfl) rfl rfl (XV rfl rfl rfl ?_)
   refine XR_if 17 rfl (fun h => ?_) (fun h => ?_)
   ·first | refine XR_a (op_field0 rfl rfl) rfl rfl ?_ | refine XR_a (op_fieldn rfl rfl) rfl rfl ?_
    refine XR_a (op_ld (st.cell 0 (i := 2) rfl rfl) rfl rfl rfl) rfl rfl ?_
    refine XR_wa (opl_call (tin_spec _ _ _ _) rfl (by kernel_rfl)) rfl rfl rfl ?_
    rintro _ _ ⟨rfl, rfl⟩
    refine XR_a (op_pick_t rfl rfl) rfl rfl (XA rfl rfl rfl (XR_nil ?_))
    refine X_ret (.cons (.tmp rfl) .nil) ?_
    refine ⟨congrArg Value.bool (decide_eq_decide.2 ?_), st.low⟩
    rw [if_neg hlen]
    rename_i hb
    exact ⟨fun hh => ⟨hb, h.1, h.2, hh.1, hh.2⟩, fun hh => ⟨hh.2.2.2.1, hh.2.2.2.2⟩⟩
   ·refine XR_no rfl rfl (XR_no rfl rfl (XR_no rfl rfl (XR_a (op_pick_f rfl rfl) rfl rfl (XA rfl rfl rfl (XR_nil ?_)))))
    refine X_ret (.cons (.tmp rfl) .nil) ?_
    refine ⟨congrArg Value.bool (decide_eq_false ?_).symm, st.low⟩
    rw [if_neg hlen]
    rintro ⟨h1, h2, h3, h4⟩; exact h ⟨h2, h3⟩
  ·refine XR_no rfl rfl (XR_no rfl rfl (XR_no rfl rfl (XR_a (op_pick_f rfl rfl) rfl rfl (XV rfl rfl rfl (XR_no rfl rfl (XR_no rfl rfl (XR_no rfl rfl (XR_a (op_pick_f rfl rfl) rfl rfl (XA rfl rfl rfl ?_)))))))))
   refine XR_nil ?_
   refine X_ret (.cons (.tmp rfl) .nil) ?_
   refine ⟨congrArg Value.bool (decide_eq_false ?_).symm, st.low⟩
   rw [if_neg hlen]
   rintro ⟨h1, _⟩; exact h h1
theorem ssplit_spec {t : Tok} (hb : 0 ≤ t.byte ∧ t.byte < 256) (h0 : Heap) : Ret Try.prog 61 [.agg #[.int .u8 t.byte, .int .i64 t.len, .int .i64 t.dist]] h0 fun r h' => r = retVal [.agg (syV (splitT t).1).toArray, .bool (splitT t).2] ∧ Ext h0 h' := by
 refine ret_of_X Try.func61 rfl rfl fun w0 hw0 => ?_
 simp only [argE, Nat.zero_add, Nat.reduceAdd]
 have st := St.start h0
 refine X_seq (X_reg ?_)
 refine XR_wa (opl_bx rfl rfl) rfl rfl rfl ?_
 rintro _ hp ⟨p, rfl, hnew⟩
 have st := st.new hnew
 refine XR_wa (opl_new rfl) rfl rfl rfl ?_
 rintro _ hp ⟨pp1, rfl, hnew⟩
 replace st := st.new hnew
 refine XA rfl rfl rfl (XR_nil (X_seq (X_seq (X_reg ?_))))
 refine XR_a (op_ldA (st.cells 1 rfl) rfl rfl rfl rfl) rfl rfl ?_
 refine XR_wa (opl_call (tright_spec t _) rfl (by kernel_rfl)) rfl rfl rfl ?_
 rintro _ hp ⟨rfl, hx⟩
 replace st := st.ext hx
 first | refine XR_a (op_notd rfl) rfl rfl ?_ | refine XR_a (op_not rfl) rfl rfl ?_
 refine XR_nil ?_
 refine X_if rfl (fun h => ?_) (fun h => ?_)
 ·refine X_seq (X_reg ?_)
  refine XR_a (op_build (ps := []) (cs := (syV Sy.nil).toArray) rfl rfl) rfl rfl ?_
  refine XR_wn (opl_store_whole (us := syV Sy.nil) st 0 rfl rfl rfl rfl rfl (syV_one _) rfl) rfl rfl fun _ hp st => ?_
  simp only [List.set_cons_zero, List.set_cons_succ] at st
  refine XA rfl rfl rfl (XR_nil ?_)
  refine X_ret (.cons (RV_agg (vs := syV Sy.nil) rfl rfl rfl (st.cells 0 rfl)) (.cons (.tmp rfl) .nil)) ?_
  have e : splitT t = (Sy.nil, false) := by unfold splitT; rw [if_neg h]
  rw [e]
  exact ⟨rfl, st.low⟩
 ·have hr := Decidable.not_not.1 h
  have e : splitT t = (splitY t, true) := by unfold splitT; rw [if_pos hr]
  rw [e]
  refine X_skip (X_seq (X_seq (X_reg ?_)))
  first | refine XR_a (op_field0 rfl rfl) rfl rfl ?_ | refine XR_a (op_fieldn rfl rfl) rfl rfl ?_
  refine XR_a (op_ld (st.cell 1 (i := 1) rfl rfl) rfl rfl rfl) rfl rfl ?_
  refine XR_a (op_eql rfl rfl) rfl rfl ?_
  refine XR_nil ?_
  refine X_if rfl (fun h => ?_) (fun h => ?_)
  ·have e1 : splitY t = ⟨⟨t.byte, 0, 0⟩, Kls.nil, false⟩ := by unfold splitY; rw [if_pos h]
   rw [e1]
   refine X_seq (X_reg ?_)
   first | refine XR_a (op_field0 rfl rfl) rfl rfl ?_ | refine XR_a (op_fieldn rfl rfl) rfl rfl ?_
   refine XR_a (op_ld (st.cell 1 (i := 0) rfl rfl) rfl rfl rfl) rfl rfl ?_
   refine XR_a (op_conv rfl rfl) rfl rfl ?_
   refine XR_as (.int .i64 t.byte) (by rw [wrap_in (by simp only [inK]; omega)]) ?_
   refine XR_a (op_build (ps := [(0, .int .i64 t.byte)]) (cs := (clsV ⟨t.byte, 0, 0⟩).toArray) rfl rfl) rfl rfl ?_
   refine XR_a (op_build (ps := [(0, .agg (clsV ⟨t.byte, 0, 0⟩).toArray)]) (cs := (syV ⟨⟨t.byte, 0, 0⟩, Kls.nil, false⟩).toArray) rfl rfl) rfl rfl ?_
   refine XR_wn (opl_store_whole (us := syV ⟨⟨t.byte, 0, 0⟩, Kls.nil, false⟩) st 0 rfl rfl rfl rfl rfl (syV_one _) rfl) rfl rfl fun _ hp st => ?_
   simp only [List.set_cons_zero, List.set_cons_succ] at st
   refine XA rfl rfl rfl (XR_nil ?_)
   refine X_ret (.cons (RV_agg (vs := syV ⟨⟨t.byte, 0, 0⟩, Kls.nil, false⟩) rfl rfl rfl (st.cells 0 rfl)) (.cons (.tmp rfl) .nil)) ?_
   exact ⟨rfl, st.low⟩
  ·have hr' := hr
   unfold Tok.right at hr'
   rw [if_neg h] at hr'
   obtain ⟨r1, r2, r3, r4, r5⟩ := hr'
   have e1 : splitY t = ⟨⟨(klsOf (t.len - 3).toNat).num + 257, (klsOf (t.len - 3).toNat).bits, (klsOf (t.len - 3).toNat).ext⟩, klsOf (t.dist - 1).toNat, true⟩ := by unfold splitY; rw [if_neg h]
   have o1 : ofC (t.len - 3) = (klsOf (t.len - 3).toNat, true) := by unfold ofC; rw [if_neg (by omega)]
   have o2 : ofC (t.dist - 1) = (klsOf (t.dist - 1).toNat, true) := by unfold ofC; rw [if_neg (by omega)]
   have k1 := klsN_255 (v := (t.len - 3).toNat) (by omega)
   have n1 : (klsOf (t.len - 3).toNat).num = klsN (t.len - 3).toNat := rfl
   rw [e1]
   refine X_skip (X_seq (X_reg ?_))
   first | refine XR_a (op_field0 rfl rfl) rfl rfl ?_ | refine XR_a (op_fieldn rfl rfl) rfl rfl ?_
   refine XR_a (op_ld (st.cell 1 (i := 1) rfl rfl) rfl rfl rfl) rfl rfl ?_
   refine XR_a (op_subI rfl rfl (by simp only [inK]; omega)) rfl rfl ?_
   refine XR_wa (opl_call (sof_spec _) rfl (by kernel_rfl)) rfl rfl rfl ?_
   rintro _ hp ⟨rfl, hx⟩
   replace st := st.ext hx
   rw [o1]
   generalize klsOf (t.len - 3).toNat = a at *
   generalize klsOf (t.dist - 1).toNat = b at *
   refine XV rfl rfl rfl (XR_a (op_extract rfl rfl) rfl rfl (XR_a (op_extract rfl rfl) rfl rfl ?_))
   refine XR_wa (opl_new rfl) rfl rfl rfl ?_
   rintro _ hp ⟨pp2, rfl, hnew⟩
   replace st := st.new hnew
   refine XR_wn (opl_store_whole (us := clsV a) st 0 rfl rfl rfl rfl rfl (clsV_one _) rfl) rfl rfl fun _ hp st => ?_
   simp only [List.set_cons_zero, List.set_cons_succ] at st
   refine XA rfl rfl rfl (XR_nil (X_seq (X_reg ?_)))
   first | refine XR_a (op_field0 rfl rfl) rfl rfl ?_ | refine XR_a (op_fieldn rfl rfl) rfl rfl ?_
   refine XR_a (op_ld (st.cell 2 (i := 2) rfl rfl) rfl rfl rfl) rfl rfl ?_
   refine XR_a (op_subI rfl rfl (by simp only [inK]; omega)) rfl rfl ?_
   refine XR_wa (opl_call (sof_spec _) rfl (by kernel_rfl)) rfl rfl rfl ?_
   rintro _ hp ⟨rfl, hx⟩
   replace st := st.ext hx
   rw [o2]
   refine XV rfl rfl rfl (XR_a (op_extract rfl rfl) rfl rfl (XR_a (op_extract rfl rfl) rfl rfl ?_))
   refine XR_wa (opl_new rfl) rfl rfl rfl ?_
   rintro _ hp ⟨pp3, rfl, hnew⟩
   replace st := st.new hnew
   refine XR_wn (opl_store_whole (us := clsV b) st 0 rfl rfl rfl rfl rfl (clsV_one _) rfl) rfl rfl fun _ hp st => ?_
   simp only [List.set_cons_zero, List.set_cons_succ] at st
   refine XA rfl rfl rfl (XR_nil (X_seq (X_reg ?_)))
   first | refine XR_a (op_field0 rfl rfl) rfl rfl ?_ | refine XR_a (op_fieldn rfl rfl) rfl rfl ?_
   refine XR_a (op_ld (st.cell 1 (i := 0) rfl rfl) rfl rfl rfl) rfl rfl ?_
   refine XR_a (op_addI rfl rfl (by simp only [inK]; omega)) rfl rfl ?_
   first | refine XR_a (op_field0 rfl rfl) rfl rfl ?_ | refine XR_a (op_fieldn rfl rfl) rfl rfl ?_
   refine XR_wn (opl_store_pt st 1 rfl rfl rfl rfl rfl (rfl)) rfl rfl fun _ hp st => ?_
   simp only [List.set_cons_zero, List.set_cons_succ] at st
   refine XR_nil (X_seq (X_reg ?_))
   refine XR_a (op_ldA (vs := clsV ⟨a.num + 257, a.bits, a.ext⟩) (st.cells 1 rfl) rfl rfl rfl rfl) rfl rfl ?_
   refine XR_a (op_ldA (vs := clsV b) (st.cells 0 rfl) rfl rfl rfl rfl) rfl rfl ?_
   refine XR_a (op_build (ps := [(0, .agg (clsV ⟨a.num + 257, a.bits, a.ext⟩).toArray), (1, .agg (clsV b).toArray), (2, .bool true)]) (cs := (syV ⟨⟨a.num + 257, a.bits, a.ext⟩, b, true⟩).toArray) rfl rfl) rfl rfl ?_
   refine XR_wn (opl_store_whole (us := syV ⟨⟨a.num + 257, a.bits, a.ext⟩, b, true⟩) st 2 rfl rfl rfl rfl rfl (syV_one _) rfl) rfl rfl fun _ hp st => ?_
   simp only [List.set_cons_zero, List.set_cons_succ] at st
   refine XA rfl rfl rfl (XR_nil ?_)
   refine X_ret (.cons (RV_agg (vs := syV ⟨⟨a.num + 257, a.bits, a.ext⟩, b, true⟩) rfl rfl rfl (st.cells 2 rfl)) (.cons (.tmp rfl) .nil)) ?_
   exact ⟨rfl, st.low⟩
theorem split_ref {t : Tok} (hr : t.right) (hb : 0 ≤ t.byte ∧ t.byte < 256) (h0 : Heap) : Ret Try.prog 49 [.agg #[.int .u8 t.byte, .int .i64 t.len, .int .i64 t.dist]] h0 fun r h' => r = retVal [.agg (clsV (splitY t).a).toArray, .agg (clsV (splitY t).b).toArray, .bool (splitY t).m] ∧ Ext h0 h' := by
 refine ret_of_X Try.func49 rfl rfl fun w0 hw0 => ?_
 simp only [argE, Nat.zero_add, Nat.reduceAdd]
 have st := St.start h0
 refine X_seq (X_reg ?_)
 refine XR_wa (opl_bx rfl rfl) rfl rfl rfl ?_
 rintro _ hp ⟨p, rfl, hnew⟩
 have st := st.new hnew
 refine XR_wa (opl_new rfl) rfl rfl rfl ?_
 rintro _ hp ⟨pp1, rfl, hnew⟩
 replace st := st.new hnew
 refine XR_wa (opl_new rfl) rfl rfl rfl ?_
 rintro _ hp ⟨pp2, rfl, hnew⟩
 replace st := st.new hnew
 refine XA rfl rfl rfl (XR_nil (X_seq (X_seq (X_reg ?_))))
 first | refine XR_a (op_field0 rfl rfl) rfl rfl ?_ | refine XR_a (op_fieldn rfl rfl) rfl rfl ?_
 refine XR_a (op_ld (st.cell 2 (i := 1) rfl rfl) rfl rfl rfl) rfl rfl ?_
 refine XR_a (op_eql rfl rfl) rfl rfl ?_
 refine XR_nil ?_
 refine X_if rfl (fun h => ?_) (fun h => ?_)
 ·have e1 : splitY t = ⟨⟨t.byte, 0, 0⟩, Kls.nil, false⟩ := by unfold splitY; rw [if_pos h]
  rw [e1]
  refine X_seq (X_reg ?_)
  first | refine XR_a (op_field0 rfl rfl) rfl rfl ?_ | refine XR_a (op_fieldn rfl rfl) rfl rfl ?_
  refine XR_a (op_ld (st.cell 2 (i := 0) rfl rfl) rfl rfl rfl) rfl rfl ?_
  refine XR_a (op_conv rfl rfl) rfl rfl ?_
  refine XR_as (.int .i64 t.byte) (by rw [wrap_in (by simp only [inK]; omega)]) ?_
  refine XR_a (op_build (ps := [(0, .int .i64 t.byte)]) (cs := (clsV ⟨t.byte, 0, 0⟩).toArray) rfl rfl) rfl rfl ?_
  refine XR_a (op_build (ps := []) (cs := (clsV Kls.nil).toArray) rfl rfl) rfl rfl ?_
  refine XR_wn (opl_store_whole (us := clsV ⟨t.byte, 0, 0⟩) st 1 rfl rfl rfl rfl rfl (clsV_one _) rfl) rfl rfl fun _ hp st => ?_
  simp only [List.set_cons_zero, List.set_cons_succ] at st
  refine XR_wn (opl_store_whole (us := clsV Kls.nil) st 0 rfl rfl rfl rfl rfl (clsV_one _) rfl) rfl rfl fun _ hp st => ?_
  simp only [List.set_cons_zero, List.set_cons_succ] at st
  refine XA rfl rfl rfl (XR_nil ?_)
  refine X_ret (.cons (RV_agg (vs := clsV ⟨t.byte, 0, 0⟩) rfl rfl rfl (st.cells 1 rfl)) (.cons (RV_agg (vs := clsV Kls.nil) rfl rfl rfl (st.cells 0 rfl)) (.cons (.tmp rfl) .nil))) ?_
  exact ⟨rfl, st.low⟩
 ·have hr' := hr
  unfold Tok.right at hr'
  rw [if_neg h] at hr'
  obtain ⟨r1, r2, r3, r4, r5⟩ := hr'
  have e1 : splitY t = ⟨⟨(klsOf (t.len - 3).toNat).num + 257, (klsOf (t.len - 3).toNat).bits, (klsOf (t.len - 3).toNat).ext⟩, klsOf (t.dist - 1).toNat, true⟩ := by unfold splitY; rw [if_neg h]
  have k1 := klsN_255 (v := (t.len - 3).toNat) (by omega)
  have n1 : (klsOf (t.len - 3).toNat).num = klsN (t.len - 3).toNat := rfl
  rw [e1]
  obtain ⟨x, hx⟩ : ∃ x : Nat, t.len - 3 = x := ⟨(t.len - 3).toNat, by omega⟩
  obtain ⟨y, hy⟩ : ∃ y : Nat, t.dist - 1 = y := ⟨(t.dist - 1).toNat, by omega⟩
  have ex : (t.len - 3).toNat = x := by omega
  have ey : (t.dist - 1).toNat = y := by omega
  rw [ex] at k1 n1
  rw [ex, ey]
  refine X_skip (X_seq (X_reg ?_))
  first | refine XR_a (op_field0 rfl rfl) rfl rfl ?_ | refine XR_a (op_fieldn rfl rfl) rfl rfl ?_
  refine XR_a (op_ld (st.cell 2 (i := 1) rfl rfl) rfl rfl rfl) rfl rfl ?_
  refine XR_a (op_subI rfl rfl (by simp only [inK]; omega)) rfl rfl ?_
  rw [hx]
  refine XR_wa (opl_call (of_ref (v := x) (by omega) _) rfl (by kernel_rfl)) rfl rfl rfl ?_
  rintro _ hp ⟨rfl, hx1⟩
  replace st := st.ext hx1
  generalize klsOf x = a at *
  refine XR_wa (opl_new rfl) rfl rfl rfl ?_
  rintro _ hp ⟨pp3, rfl, hnew⟩
  replace st := st.new hnew
  refine XR_wn (opl_store_whole (us := clsV a) st 0 rfl rfl rfl rfl rfl (clsV_one _) rfl) rfl rfl fun _ hp st => ?_
  simp only [List.set_cons_zero, List.set_cons_succ] at st
  refine XR_nil (X_seq (X_reg ?_))
  first | refine XR_a (op_field0 rfl rfl) rfl rfl ?_ | refine XR_a (op_fieldn rfl rfl) rfl rfl ?_
  refine XR_a (op_ld (st.cell 0 (i := 0) rfl rfl) rfl rfl rfl) rfl rfl ?_
  refine XR_a (op_addI rfl rfl (by simp only [inK]; omega)) rfl rfl ?_
  first | refine XR_a (op_field0 rfl rfl) rfl rfl ?_ | refine XR_a (op_fieldn rfl rfl) rfl rfl ?_
  refine XR_wn (opl_store_pt st 0 rfl rfl rfl rfl rfl (rfl)) rfl rfl fun _ hp st => ?_
  simp only [List.set_cons_zero, List.set_cons_succ] at st
  refine XR_nil (X_seq ?_)
  refine X_draw (butAt [(4, .grow)]) (by kernel_rfl) (by kernel_rfl) ?_
  refine XR_a (op_ldA (vs := clsV ⟨a.num + 257, a.bits, a.ext⟩) (st.cells 0 rfl) rfl rfl rfl rfl) rfl rfl ?_
  first | refine XR_a (op_field0 rfl rfl) rfl rfl ?_ | refine XR_a (op_fieldn rfl rfl) rfl rfl ?_
  refine XR_a (op_ld (st.cell 3 (i := 2) rfl rfl) rfl rfl rfl) rfl rfl ?_
  refine XR_a (op_subI rfl rfl (by simp only [inK]; omega)) rfl rfl ?_
  rw [hy]
  refine XR_ga (opl_call (of_ref (v := y) (by omega) _) rfl (by kernel_rfl)) rfl rfl rfl (fun _ _ h => h.2) ?_
  rintro _ hp ⟨rfl, hx2⟩
  replace st := st.ext hx2
  generalize klsOf y = b at *
  refine XR_wn (opl_store_whole (us := clsV ⟨a.num + 257, a.bits, a.ext⟩) st 2 rfl rfl rfl rfl rfl (clsV_one _) rfl) rfl rfl fun _ hp st => ?_
  simp only [List.set_cons_zero, List.set_cons_succ] at st
  refine XR_wn (opl_store_whole (us := clsV b) st 1 rfl rfl rfl rfl rfl (clsV_one _) rfl) rfl rfl fun _ hp st => ?_
  simp only [List.set_cons_zero, List.set_cons_succ] at st
  refine XA rfl rfl rfl (XR_nil ?_)
  refine X_ret (.cons (RV_agg (vs := clsV ⟨a.num + 257, a.bits, a.ext⟩) rfl rfl rfl (st.cells 2 rfl)) (.cons (RV_agg (vs := clsV b) rfl rfl rfl (st.cells 1 rfl)) (.cons (.tmp rfl) .nil))) ?_
  exact ⟨rfl, st.low⟩
end Go.Bn
end
