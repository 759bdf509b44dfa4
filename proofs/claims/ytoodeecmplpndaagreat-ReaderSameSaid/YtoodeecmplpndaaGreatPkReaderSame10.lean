/- Packed texts of a claim: what its theorem uses, joined. -/
import Derived.RecoverIn
import Derived.Test.YtoodeecmplpndaaGreatPkReaderSame9
section
set_option linter.unusedVariables false
set_option linter.unusedSimpArgs false
set_option maxHeartbeats 4000000
set_option maxRecDepth 20000
namespace Go.Bn
open Go Proofs
theorem St.only {B : Nat} {h0 hp : Heap} {r : Res} : ∀ {rs : List Res}, St B h0 hp (r :: rs) → St B h0 hp [r]
 | [], s => s
 | _ :: _, s => (s.perm (List.Perm.swap _ _ _)).tail.only
@[reducible] def fdG (p : Nat) (A : Option Addr) (m c at_ : Nat) (bad : Bool) : Res := pt p 213 [.slice A m c, .int .i64 (at_ : Int), .bool bad]
theorem fnew_spec {m c : Nat} {A : Option Addr} {h0 : Heap} : Ret Tryz.prog 90 [.slice A m c] h0 fun v h' => ∃ p, v = .pointer (some ⟨p, 0, none⟩) ∧ St h0.size h0 h' [fdG p A m c 0 false] := by
 refine ret_of_X Tryz.func90 rfl rfl fun w0 hw0 => ?_
 simp only [argE, Nat.zero_add, Nat.reduceAdd]
 have st := St.start h0
 refine X_seq (X_reg (XA rfl rfl rfl (XR_nil (X_seq (X_reg (XV rfl rfl rfl ?_))))))
 refine XR_a (op_build (ps := [(0, .slice A m c)]) (cs := #[.slice A m c, .int .i64 0, .bool false]) rfl rfl) rfl rfl ?_
 refine XR_wa (opl_bx rfl rfl) rfl rfl rfl ?_
 rintro _ hp ⟨p, rfl, hnew⟩
 have st := st.new hnew
 refine XA rfl rfl rfl (XR_nil ?_)
 refine X_ret (.cons (.tmp rfl) .nil) ?_
 exact ⟨_, rfl, st⟩
theorem fok_spec {p : Nat} {b : Bool} {h0 : Heap} (c2 : cellH h0 ⟨p, 2, none⟩ = some (.bool b)) : Ret Tryz.prog 93 [.pointer (some ⟨p, 0, none⟩)] h0 fun v h' => v = .bool (!b) ∧ h0 = h' := by
 refine ret_of_X Tryz.func93 rfl rfl fun w0 hw0 => ?_
 simp only [argE, Nat.zero_add, Nat.reduceAdd]
 refine X_seq (X_reg (XA rfl rfl rfl (XR_nil (X_seq (X_reg (XV rfl rfl rfl ?_))))))
 refine XR_a (op_ptr_nnil rfl rfl rfl) rfl rfl ?_
 refine XV rfl rfl rfl (XV rfl rfl rfl (XR_a (op_nilCheck rfl) rfl rfl ?_))
 first | refine XR_a (op_field0 rfl rfl) rfl rfl ?_ | refine XR_a (op_fieldn rfl rfl) rfl rfl ?_
 refine XR_a (op_ld (by first | assumption | exact st.cell 0 rfl rfl | exact st.cell 1 rfl rfl | exact st.cell 2 rfl rfl | exact st.cell 3 rfl rfl) rfl rfl rfl) rfl rfl ?_
 refine XR_a (op_not rfl) rfl rfl ?_
 refine XR_a (op_pick_t rfl rfl) rfl rfl (XA rfl rfl rfl (XR_nil ?_))
 refine X_ret (.cons (.tmp rfl) .nil) ?_
 exact ⟨rfl, rfl⟩
theorem fleft_spec {p m c a : Nat} {A : Option Addr} {h0 : Heap} (c0 : cellH h0 ⟨p, 0, none⟩ = some (.slice A m c)) (c1 : cellH h0 ⟨p, 1, none⟩ = some (.int .i64 (a : Int))) (hm : m ≤ 1099511627776) (ha : a ≤ m) :
  Ret Tryz.prog 94 [.pointer (some ⟨p, 0, none⟩)] h0 fun v h' => v = .int .i64 (m - a : Nat) ∧ h0 = h' := by
 refine ret_of_X Tryz.func94 rfl rfl fun w0 hw0 => ?_
 simp only [argE, Nat.zero_add, Nat.reduceAdd]
 refine X_seq (X_reg (XA rfl rfl rfl (XR_nil (X_seq (X_seq (X_reg (XV rfl rfl rfl ?_)))))))
 refine XR_a (op_ptr_nil rfl rfl rfl) rfl rfl ?_
 refine XR_nil (X_else rfl (X_skip (X_seq ?_)))
 refine X_draw byKind (by kernel_rfl) (by kernel_rfl) ?_
 refine XV rfl rfl rfl (XR_a (op_nilCheck rfl) rfl rfl ?_)
 first | refine XR_a (op_field0 rfl rfl) rfl rfl ?_ | refine XR_a (op_fieldn rfl rfl) rfl rfl ?_
 refine XR_a (op_ld (by first | assumption | exact st.cell 0 rfl rfl | exact st.cell 1 rfl rfl | exact st.cell 2 rfl rfl | exact st.cell 3 rfl rfl) rfl rfl rfl) rfl rfl ?_
 refine XR_a (op_len rfl rfl rfl) rfl rfl ?_
 refine XV rfl rfl rfl (XR_a (op_nilCheck rfl) rfl rfl ?_)
 first | refine XR_a (op_field0 rfl rfl) rfl rfl ?_ | refine XR_a (op_fieldn rfl rfl) rfl rfl ?_
 refine XR_a (op_ld (by first | assumption | exact st.cell 0 rfl rfl | exact st.cell 1 rfl rfl | exact st.cell 2 rfl rfl | exact st.cell 3 rfl rfl) rfl rfl rfl) rfl rfl ?_
 first | refine XR_a (op_subN rfl rfl (by omega) (by simp only [inK]; omega)) rfl rfl ?_ | refine XR_a (op_subI rfl rfl (by simp only [inK]; omega)) rfl rfl ?_ | refine XR_a (op_sub rfl rfl) rfl rfl ?_
 refine XA rfl rfl rfl (XR_nil ?_)
 refine X_ret (.cons (.tmp rfl) .nil) ?_
 exact ⟨rfl, rfl⟩
theorem fnum_spec {B p m c a : Nat} {k : Int} {A : Option Addr} {l : List UInt8} {F : List Res} {h0 : Heap} (st : St B h0 h0 (fdG p A m c a false :: F)) (hr : Rd h0 A (l.map byteV)) (hl : l.length = m) (hm : m ≤ 1099511627776) (ha : a ≤ m) :
  Ret Tryz.prog 91 [.pointer (some ⟨p, 0, none⟩), .int .i64 k] h0 fun v h' =>
   v = .int .u32 (((getF l a k).getD 0 : Nat) : Int) ∧ St B h0 h' (fdG p A m c (if (getF l a k).isSome = true then a + wid k else a) (!(getF l a k).isSome) :: F) := by
 have hw := wid_le k
 refine ret_of_X Tryz.func91 rfl rfl fun w0 hw0 => ?_
 simp only [argE, Nat.zero_add, Nat.reduceAdd]
 refine X_seq (X_reg (XA rfl rfl rfl (XR_nil (X_seq (X_seq (X_reg (XV rfl rfl rfl ?_)))))))
 refine XR_wa (opl_call (fok_spec (st.cell 0 rfl rfl)) rfl (by kernel_rfl)) rfl rfl rfl ?_
 rintro _ _ ⟨rfl, rfl⟩
 refine XR_a (op_not rfl) rfl rfl ?_
 refine XR_nil (X_else rfl (X_skip (X_seq ?_)))
 refine X_draw byKind (by kernel_rfl) (by kernel_rfl) ?_
 refine XV rfl rfl rfl (XR_a (op_nilCheck rfl) rfl rfl ?_)
 first | refine XR_a (op_field0 rfl rfl) rfl rfl ?_ | refine XR_a (op_fieldn rfl rfl) rfl rfl ?_
 refine XR_a (op_ld (by first | assumption | exact st.cell 0 rfl rfl | exact st.cell 1 rfl rfl | exact st.cell 2 rfl rfl | exact st.cell 3 rfl rfl) rfl rfl rfl) rfl rfl ?_
 refine XV rfl rfl rfl (XR_a (op_nilCheck rfl) rfl rfl ?_)
 first | refine XR_a (op_field0 rfl rfl) rfl rfl ?_ | refine XR_a (op_fieldn rfl rfl) rfl rfl ?_
 refine XR_a (op_ld (by first | assumption | exact st.cell 0 rfl rfl | exact st.cell 1 rfl rfl | exact st.cell 2 rfl rfl | exact st.cell 3 rfl rfl) rfl rfl rfl) rfl rfl ?_
 refine XV rfl rfl rfl ?_
 refine XR_wa (opl_call (fget_spec hr hl (by omega) (by simp only [inK]; omega)) rfl (by kernel_rfl)) rfl rfl rfl ?_
 rintro _ _ ⟨rfl, rfl⟩
 refine XV rfl rfl rfl (XR_a (op_extract rfl rfl) rfl rfl (XR_a (op_extract rfl rfl) rfl rfl ?_))
 by_cases hg : (getF l a k).isSome = true
 ·refine XR_as (.bool true) (congrArg Value.bool hg) ?_
  refine XA rfl rfl rfl (XA rfl rfl rfl (XR_nil (X_seq (X_seq (X_reg (XV rfl rfl rfl ?_))))))
  refine XR_a (op_not rfl) rfl rfl ?_
  refine XR_nil (X_else rfl (X_skip (X_seq ?_)))
  refine X_draw (butAt [(5, .grow)]) (by kernel_rfl) (by kernel_rfl) ?_
  refine XV rfl rfl rfl (XR_a (op_nilCheck rfl) rfl rfl ?_)
  first | refine XR_a (op_field0 rfl rfl) rfl rfl ?_ | refine XR_a (op_fieldn rfl rfl) rfl rfl ?_
  refine XR_a (op_ld (by first | assumption | exact st.cell 0 rfl rfl | exact st.cell 1 rfl rfl | exact st.cell 2 rfl rfl | exact st.cell 3 rfl rfl) rfl rfl rfl) rfl rfl ?_
  refine XV rfl rfl rfl ?_
  refine XR_ga (opl_call (fwidth_spec _ _) rfl (by kernel_rfl)) rfl rfl rfl (fun _ _ h => h.2 ▸ Low.refl _ _) ?_
  rintro _ _ ⟨rfl, rfl⟩
  first | refine XR_a (op_addN rfl rfl (by simp only [inK]; omega)) rfl rfl ?_ | refine XR_a (op_addI rfl rfl (by simp only [inK]; omega)) rfl rfl ?_ | refine XR_a (op_add rfl rfl) rfl rfl ?_
  refine XR_a (op_nilCheck rfl) rfl rfl ?_
  first | refine XR_a (op_field0 rfl rfl) rfl rfl ?_ | refine XR_a (op_fieldn rfl rfl) rfl rfl ?_
  refine XR_wn (opl_store_pt st 0 rfl rfl rfl rfl rfl (rfl)) rfl rfl fun _ hp st => ?_
  simp only [List.set_cons_zero, List.set_cons_succ] at st
  refine XR_nil (X_seq (X_reg (XV rfl rfl rfl (XA rfl rfl rfl (XR_nil ?_)))))
  refine X_ret (.cons (.tmp rfl) .nil) ?_
  rw [if_pos hg, hg]
  exact ⟨rfl, st⟩
 ·refine XR_as (.bool false) (congrArg Value.bool (by simpa using hg)) ?_
  refine XA rfl rfl rfl (XA rfl rfl rfl (XR_nil (X_seq (X_seq (X_reg (XV rfl rfl rfl ?_))))))
  refine XR_a (op_not rfl) rfl rfl ?_
  refine XR_nil (X_then rfl (X_seq (X_reg (XV rfl rfl rfl (XR_a (op_nilCheck rfl) rfl rfl ?_)))))
  first | refine XR_a (op_field0 rfl rfl) rfl rfl ?_ | refine XR_a (op_fieldn rfl rfl) rfl rfl ?_
  refine XR_wn (opl_store_pt st 0 rfl rfl rfl rfl rfl (rfl)) rfl rfl fun _ hp st => ?_
  simp only [List.set_cons_zero, List.set_cons_succ] at st
  refine XR_nil (X_seq (X_reg (XA rfl rfl rfl (XR_nil ?_))))
  refine X_ret (.cons (.tmp rfl) .nil) ?_
  rw [Option.not_isSome_iff_eq_none] at hg
  rw [hg]
  exact ⟨rfl, st⟩
theorem fbytes_bad {p : Nat} {k : Value} {h0 : Heap} (c2 : cellH h0 ⟨p, 2, none⟩ = some (.bool true)) : Ret Tryz.prog 92 [.pointer (some ⟨p, 0, none⟩), k] h0 fun v h' => v = .slice none 0 0 ∧ h0 = h' := by
 refine ret_of_X Tryz.func92 rfl rfl fun w0 hw0 => ?_
 simp only [argE, Nat.zero_add, Nat.reduceAdd]
 refine X_seq (X_reg (XA rfl rfl rfl (XR_nil (X_seq (X_seq (X_reg (XV rfl rfl rfl ?_)))))))
 refine XR_wa (opl_call (fok_spec c2) rfl (by kernel_rfl)) rfl rfl rfl ?_
 rintro _ _ ⟨rfl, rfl⟩
 refine XR_a (op_not rfl) rfl rfl ?_
 refine XR_nil (X_then rfl (X_seq (X_reg (XA rfl rfl rfl (XR_nil ?_)))))
 refine X_ret (.cons (.tmp rfl) .nil) ?_
 exact ⟨rfl, rfl⟩
theorem fbytes_ok {B p m c a n : Nat} {A : Option Addr} {l : List UInt8} {F : List Res} {h0 : Heap} (st : St B h0 h0 (fdG p A m c a false :: F)) (hr : Rd h0 A (l.map byteV)) (hl : l.length = m) (hm : m ≤ 1099511627776) (hmc : m ≤ c) (hn : n + a ≤ m) :
  Ret Tryz.prog 92 [.pointer (some ⟨p, 0, none⟩), .int .i64 (n : Int)] h0 fun v h' => St B h0 h' (fdG p A m c (a + n) false :: row 5 1 v (((l.drop a).take n).map byteV) :: F) := by
 refine ret_of_X Tryz.func92 rfl rfl fun w0 hw0 => ?_
 simp only [argE, Nat.zero_add, Nat.reduceAdd]
 refine X_seq (X_reg (XA rfl rfl rfl (XR_nil (X_seq (X_seq (X_reg (XV rfl rfl rfl ?_)))))))
 refine XR_wa (opl_call (fok_spec (st.cell 0 rfl rfl)) rfl (by kernel_rfl)) rfl rfl rfl ?_
 rintro _ _ ⟨rfl, rfl⟩
 refine XR_a (op_not rfl) rfl rfl ?_
 refine XR_nil (X_else rfl (X_skip (X_seq (X_seq ?_))))
 refine X_draw byKind (by kernel_rfl) (by kernel_rfl) ?_
 refine XV rfl rfl rfl ?_
 refine XR_a (op_lss rfl rfl) rfl rfl ?_
 refine XR_as (.bool false) (congrArg Value.bool (decide_eq_false (by omega))) ?_
 refine XV rfl rfl rfl (XV rfl rfl rfl (XV rfl rfl rfl (XR_a (op_nilCheck rfl) rfl rfl ?_)))
 first | refine XR_a (op_field0 rfl rfl) rfl rfl ?_ | refine XR_a (op_fieldn rfl rfl) rfl rfl ?_
 refine XR_a (op_ld (by first | assumption | exact st.cell 0 rfl rfl | exact st.cell 1 rfl rfl | exact st.cell 2 rfl rfl | exact st.cell 3 rfl rfl) rfl rfl rfl) rfl rfl ?_
 refine XR_a (op_len rfl rfl rfl) rfl rfl ?_
 refine XV rfl rfl rfl (XR_a (op_nilCheck rfl) rfl rfl ?_)
 first | refine XR_a (op_field0 rfl rfl) rfl rfl ?_ | refine XR_a (op_fieldn rfl rfl) rfl rfl ?_
 refine XR_a (op_ld (by first | assumption | exact st.cell 0 rfl rfl | exact st.cell 1 rfl rfl | exact st.cell 2 rfl rfl | exact st.cell 3 rfl rfl) rfl rfl rfl) rfl rfl ?_
 first | refine XR_a (op_subN rfl rfl (by omega) (by simp only [inK]; omega)) rfl rfl ?_ | refine XR_a (op_subI rfl rfl (by simp only [inK]; omega)) rfl rfl ?_ | refine XR_a (op_sub rfl rfl) rfl rfl ?_
 refine XR_a (op_gtr rfl rfl) rfl rfl ?_
 refine XR_as (.bool false) (congrArg Value.bool (decide_eq_false (by omega))) ?_
 refine XR_a (op_pick_f rfl rfl) rfl rfl (XR_nil (X_else rfl (X_skip (X_seq (X_reg (XV rfl rfl rfl ?_))))))
 refine XR_wa (opl_mk (by omega) rfl rfl rfl) rfl rfl rfl ?_
 rintro v hp hnew
 have hxx := hnew.1
 replace st := st.new hnew
 obtain ⟨A2, n2, c2, rfl, hlen2, _, _, _⟩ := st.row 0 rfl
 have hn2 : n2 = n := by simpa using hlen2.symm
 subst hn2
 have hcut := (hr.ext hxx).cut a 1 c (m - a) (by intro hh; simp; omega)
 rw [Nat.mul_one, ← List.map_drop, ← List.map_take, List.take_of_length_le (i := m - a) (by rw [List.length_drop]; omega)] at hcut
 refine XA rfl rfl rfl (XR_nil (X_seq ?_))
 refine X_draw byKind (by kernel_rfl) (by kernel_rfl) ?_
 refine XV rfl rfl rfl (XV rfl rfl rfl (XR_a (op_nilCheck rfl) rfl rfl ?_))
 first | refine XR_a (op_field0 rfl rfl) rfl rfl ?_ | refine XR_a (op_fieldn rfl rfl) rfl rfl ?_
 refine XR_a (op_ld (by first | assumption | exact st.cell 0 rfl rfl | exact st.cell 1 rfl rfl | exact st.cell 2 rfl rfl | exact st.cell 3 rfl rfl) rfl rfl rfl) rfl rfl ?_
 refine XV rfl rfl rfl (XR_a (op_nilCheck rfl) rfl rfl ?_)
 first | refine XR_a (op_field0 rfl rfl) rfl rfl ?_ | refine XR_a (op_fieldn rfl rfl) rfl rfl ?_
 refine XR_a (op_ld (by first | assumption | exact st.cell 0 rfl rfl | exact st.cell 1 rfl rfl | exact st.cell 2 rfl rfl | exact st.cell 3 rfl rfl) rfl rfl rfl) rfl rfl ?_
 refine XR_a (op_slice_l rfl rfl rfl (by omega) (by omega)) rfl rfl ?_
 refine XR_wa (opl_copyW st 0 rfl hcut (by simp [hl]) (by simp) (one_bytes _) rfl rfl rfl rfl) rfl rfl rfl ?_
 rintro _ hp ⟨rfl, st⟩
 simp only [List.set_cons_zero, List.set_cons_succ, Nat.mul_one] at st
 rw [Nat.min_eq_right (by omega), show (List.replicate n2 (Value.int IntKind.u8 0)).drop n2 = [] by simp, List.append_nil, ← List.map_take] at st
 refine XR_nil (X_seq (X_reg (XV rfl rfl rfl (XR_a (op_nilCheck rfl) rfl rfl ?_))))
 first | refine XR_a (op_field0 rfl rfl) rfl rfl ?_ | refine XR_a (op_fieldn rfl rfl) rfl rfl ?_
 refine XR_a (op_ld (by first | assumption | exact st.cell 0 rfl rfl | exact st.cell 1 rfl rfl | exact st.cell 2 rfl rfl | exact st.cell 3 rfl rfl) rfl rfl rfl) rfl rfl ?_
 refine XV rfl rfl rfl ?_
 first | refine XR_a (op_addN rfl rfl (by simp only [inK]; omega)) rfl rfl ?_ | refine XR_a (op_addI rfl rfl (by simp only [inK]; omega)) rfl rfl ?_ | refine XR_a (op_add rfl rfl) rfl rfl ?_
 refine XR_a (op_nilCheck rfl) rfl rfl ?_
 first | refine XR_a (op_field0 rfl rfl) rfl rfl ?_ | refine XR_a (op_fieldn rfl rfl) rfl rfl ?_
 refine XR_wn (opl_store_pt st 1 rfl rfl rfl rfl rfl (rfl)) rfl rfl fun _ hp st => ?_
 simp only [List.set_cons_zero, List.set_cons_succ] at st
 refine XR_nil (X_seq (X_reg (XV rfl rfl rfl (XA rfl rfl rfl (XR_nil ?_)))))
 refine X_ret (.cons (.tmp rfl) .nil) ?_
 exact st.perm (List.Perm.swap _ _ _)
theorem fnum_at {B p m c a n : Nat} (a' : Nat) {k : Int} {A : Option Addr} {l : List UInt8} {F : List Res} {h0 : Heap} (st : St B h0 h0 (fdG p A m c a false :: F)) (hr : Rd h0 A (l.map byteV)) (hl : l.length = m) (hm : m ≤ 1099511627776) (ha : a ≤ m) (hg : getF l a k = some n) (ha' : a + wid k = a') :
  Ret Tryz.prog 91 [.pointer (some ⟨p, 0, none⟩), .int .i64 k] h0 fun v h' => v = .int .u32 (n : Int) ∧ St B h0 h' (fdG p A m c a' false :: F) := by
 have h := fnum_spec (k := k) st hr hl hm ha
 rw [hg] at h
 simp only [Option.isSome_some, if_true, Option.getD_some, Bool.not_true, ha'] at h
 exact h
theorem getF_at {l : List UInt8} {a : Nat} {k : Int} (h : a + wid k ≤ l.length) : getF l (a : Int) k = some (leV ((l.drop a).take (wid k))) := by
 unfold getF
 rw [if_pos (by omega)]; simp
end Go.Bn
end

section
set_option linter.unusedVariables false
set_option linter.unusedSimpArgs false
set_option maxHeartbeats 4000000
set_option maxRecDepth 20000
namespace Go.Bn
open Go Proofs
theorem wid2 : wid 2 = 2 := rfl
theorem fnum_fail {B p m c a : Nat} {k : Int} {A : Option Addr} {l : List UInt8} {F : List Res} {h0 : Heap} (st : St B h0 h0 (fdG p A m c a false :: F)) (hr : Rd h0 A (l.map byteV)) (hl : l.length = m) (hm : m ≤ 1099511627776) (ha : a ≤ m) (hg : getF l a k = none) :
  Ret Tryz.prog 91 [.pointer (some ⟨p, 0, none⟩), .int .i64 k] h0 fun v h' => v = .int .u32 0 ∧ St B h0 h' (fdG p A m c a true :: F) := by
 have h := fnum_spec (k := k) st hr hl hm ha
 rw [hg] at h
 exact h
theorem getF_short {l : List UInt8} {a : Nat} {k : Int} (h : l.length < a + wid k) : getF l (a : Int) k = none := by
 unfold getF
 rw [if_neg (by omega)]
theorem fbytes_long {B p m c a n : Nat} {A : Option Addr} {F : List Res} {h0 : Heap} (st : St B h0 h0 (fdG p A m c a false :: F)) (hm : m ≤ 1099511627776) (ha : a ≤ m) (hn : m < a + n) :
  Ret Tryz.prog 92 [.pointer (some ⟨p, 0, none⟩), .int .i64 (n : Int)] h0 fun v h' => v = .slice none 0 0 ∧ St B h0 h' (fdG p A m c a true :: F) := by
 refine ret_of_X Tryz.func92 rfl rfl fun w0 hw0 => ?_
 simp only [argE, Nat.zero_add, Nat.reduceAdd]
 refine X_seq (X_reg (XA rfl rfl rfl (XR_nil (X_seq (X_seq (X_reg (XV rfl rfl rfl ?_)))))))
 refine XR_wa (opl_call (fok_spec (st.cell 0 rfl rfl)) rfl (by kernel_rfl)) rfl rfl rfl ?_
 rintro _ _ ⟨rfl, rfl⟩
 refine XR_a (op_not rfl) rfl rfl ?_
 refine XR_nil (X_else rfl (X_skip (X_seq (X_seq ?_))))
 refine X_draw byKind (by kernel_rfl) (by kernel_rfl) ?_
 refine XV rfl rfl rfl ?_
 refine XR_a (op_lss rfl rfl) rfl rfl ?_
 refine XR_as (.bool false) (congrArg Value.bool (decide_eq_false (by omega))) ?_
 refine XV rfl rfl rfl (XV rfl rfl rfl (XV rfl rfl rfl (XR_a (op_nilCheck rfl) rfl rfl ?_)))
 first | refine XR_a (op_field0 rfl rfl) rfl rfl ?_ | refine XR_a (op_fieldn rfl rfl) rfl rfl ?_
 refine XR_a (op_ld (by first | assumption | exact st.cell 0 rfl rfl | exact st.cell 1 rfl rfl | exact st.cell 2 rfl rfl | exact st.cell 3 rfl rfl) rfl rfl rfl) rfl rfl ?_
 refine XR_a (op_len rfl rfl rfl) rfl rfl ?_
 refine XV rfl rfl rfl (XR_a (op_nilCheck rfl) rfl rfl ?_)
 first | refine XR_a (op_field0 rfl rfl) rfl rfl ?_ | refine XR_a (op_fieldn rfl rfl) rfl rfl ?_
 refine XR_a (op_ld (by first | assumption | exact st.cell 0 rfl rfl | exact st.cell 1 rfl rfl | exact st.cell 2 rfl rfl | exact st.cell 3 rfl rfl) rfl rfl rfl) rfl rfl ?_
 first | refine XR_a (op_subN rfl rfl (by omega) (by simp only [inK]; omega)) rfl rfl ?_ | refine XR_a (op_subI rfl rfl (by simp only [inK]; omega)) rfl rfl ?_ | refine XR_a (op_sub rfl rfl) rfl rfl ?_
 refine XR_a (op_gtr rfl rfl) rfl rfl ?_
 refine XR_as (.bool true) (congrArg Value.bool (decide_eq_true (by omega))) ?_
 refine XR_a (op_pick_f rfl rfl) rfl rfl (XR_nil (X_then rfl (X_seq (X_reg (XV rfl rfl rfl (XR_a (op_nilCheck rfl) rfl rfl ?_))))))
 first | refine XR_a (op_field0 rfl rfl) rfl rfl ?_ | refine XR_a (op_fieldn rfl rfl) rfl rfl ?_
 refine XR_wn (opl_store_pt st 0 rfl rfl rfl rfl rfl (rfl)) rfl rfl fun _ hp st => ?_
 simp only [List.set_cons_zero, List.set_cons_succ] at st
 refine XR_nil (X_seq (X_reg (XA rfl rfl rfl (XR_nil ?_))))
 refine X_ret (.cons (.tmp rfl) .nil) ?_
 exact ⟨rfl, st⟩
theorem pieces_spec {m c : Nat} {A : Option Addr} {l : List UInt8} {h0 : Heap} (hr : Rd h0 A (l.map byteV)) (hl : l.length = m) (hm : m ≤ 1099511627776) (hmc : m ≤ c) :
    Ret Tryz.prog 54 [.slice A m c] h0 fun v h' => ∃ v1, v = retVal [v1, .int .i64 (pieces l).2] ∧ St h0.size h0 h' [row 5 1 v1 ((pieces l).1.map byteV)] := by
  have hp0 : piecesF (m - 0 + 1) (l.drop 0) [] = pieces l := by rw [← hl]; rfl
  refine ret_of_X Tryz.func54 rfl rfl fun w0 hw0 => ?_
  simp only [argE, Nat.zero_add, Nat.reduceAdd]
  refine X_seq ?_
  refine X_reg ?_
  refine XR_a (op_assign rfl) rfl rfl ?_
  refine XR_a (op_assign rfl) rfl rfl ?_
  refine XR_nil ?_
  refine X_seq ?_
  refine X_reg ?_
  refine XR_a (op_move rfl) rfl rfl ?_
  refine XR_wa (opl_call (fnew_spec) rfl (by kernel_rfl)) rfl rfl rfl ?_
  rintro _ hp ⟨pr, rfl, st⟩
  refine XR_a (op_assign rfl) rfl rfl ?_
  refine XR_nil ?_
  refine X_seq ?_
  refine X_reg ?_
  refine XR_a (op_assign rfl) rfl rfl ?_
  refine XR_nil ?_
  refine X_block ?_
  replace st := st.nilrow 5 1
  refine X_loop (fun s => m - s.1) (fun s => [(4, .pointer (some ⟨pr, 0, none⟩)), (5, s.2.1)])
    (fun (s : Nat × Value × List UInt8) hp => St h0.size h0 hp [row 5 1 s.2.1 (s.2.2.map byteV), fdG pr A m c s.1 false] ∧ s.1 ≤ m ∧ s.2.2.length ≤ s.1 ∧ piecesF (m - s.1 + 1) (l.drop s.1) s.2.2 = pieces l)
    (0, _, []) (.cons rfl (.cons rfl (.nil _))) ⟨st, by simp, by simp, hp0⟩ ?_
  clear st hp0
  rintro ⟨a, v, out⟩ hp ⟨st, ha, hout, hpp⟩
  simp only at st ha hout hpp ⊢
  replace st := st.perm (List.Perm.swap _ _ _)
  refine X_block ?_
  refine X_seq ?_
  refine X_reg ?_
  refine XR_a (op_move rfl) rfl rfl ?_
  by_cases h2 : a + 2 ≤ m
  · refine XR_wa (opl_call (fnum_at (a + 2) (n := leV ((l.drop a).take 2)) st.here (hr.ext st.low) hl hm ha (getF_at (by rw [wid2, hl]; exact h2)) (by rw [wid2])) rfl (by kernel_rfl)) rfl rfl rfl ?_
    rintro _ hp ⟨rfl, st2⟩
    replace st := st.trans st2
    have hn16 : leV ((l.drop a).take 2) < 65536 := Nat.lt_of_lt_of_le (leV_lt _) (Nat.le_trans (Nat.pow_le_pow_right (by omega) (show _ ≤ 2 by rw [List.length_take]; omega)) (by decide))
    have hstep := piecesF_step (out := out) (n := leV ((l.drop a).take 2)) hl h2 rfl
    have hlong := piecesF_long (out := out) (n := leV ((l.drop a).take 2)) hl h2 rfl
    have hmore := fun q => piecesF_more (out := out) (a := a) hl q
    have hdone := fun q => piecesF_done (out := out) (a := a) hl q
    generalize leV ((l.drop a).take 2) = n at *
    first | refine XR_a (op_convI rfl rfl (by simp only [inK]; omega)) rfl rfl ?_ | refine XR_a (op_conv rfl rfl) rfl rfl ?_
    refine XR_a (op_assign rfl) rfl rfl ?_
    refine XR_nil ?_
    refine X_seq ?_
    refine X_reg ?_
    refine XR_a (op_move rfl) rfl rfl ?_
    refine XR_a (op_move rfl) rfl rfl ?_
    by_cases h3 : a + 2 + n ≤ m
    · refine XR_wa (opl_call (fbytes_ok (n := n) st.here (hr.ext st.low) hl hm hmc (by omega)) rfl (by kernel_rfl)) rfl rfl rfl ?_
      rintro w hp st2
      replace st := st.trans st2
      obtain ⟨A7, n7, c7, rfl, hlen7, _, _, hrd7⟩ := st.row 1 rfl
      refine XR_a (op_assign rfl) rfl rfl ?_
      refine XR_nil ?_
      refine X_seq ?_
      refine X_block ?_
      refine X_seq ?_
      refine X_reg ?_
      refine XR_a (op_move rfl) rfl rfl ?_
      refine XR_wa (opl_call (fok_spec (st.cell 0 rfl rfl)) rfl (by kernel_rfl)) rfl rfl rfl ?_
      rintro _ _ ⟨rfl, rfl⟩
      refine XR_a (op_not rfl) rfl rfl ?_
      refine XR_a (op_assign rfl) rfl rfl ?_
      refine XR_nil ?_
      refine X_else rfl ?_
      refine X_seq ?_
      refine X_reg ?_
      refine XR_a (op_move rfl) rfl rfl ?_
      refine XR_a (op_eql rfl rfl) rfl rfl ?_
      refine XR_a (op_move rfl) rfl rfl ?_
      refine XR_if 23 rfl (fun h => ?_) (fun h => ?_)
      · refine XR_a (op_move rfl) rfl rfl ?_
        refine XR_wa (opl_call (fleft_spec (st.cell 0 rfl rfl) (st.cell 0 rfl rfl) hm (by omega)) rfl (by kernel_rfl)) rfl rfl rfl ?_
        rintro _ _ ⟨rfl, rfl⟩
        refine XR_a (op_gtr rfl rfl) rfl rfl ?_
        refine XR_a (op_pick_t rfl rfl) rfl rfl ?_
        refine XR_a (op_assign rfl) rfl rfl ?_
        refine XR_nil ?_
        refine X_if rfl (fun h => ?_) (fun h => ?_)
        · refine X_seq ?_
          refine X_reg ?_
          refine XR_a (op_assign rfl) rfl rfl ?_
          refine XR_a (op_assign rfl) rfl rfl ?_
          refine XR_nil ?_
          refine X_ret (.cons (.tmp rfl) (.cons (.tmp rfl) .nil)) ?_
          rw [hmore (by omega) (by omega)] at hpp
          refine ⟨_, by rw [← hpp], ?_⟩
          rw [← hpp]
          exact (st.nilrow 5 1).only
        · refine X_seq ?_
          refine X_reg ?_
          refine XR_a (op_move rfl) rfl rfl ?_
          refine XR_a (op_eql rfl rfl) rfl rfl ?_
          refine XR_a (op_assign rfl) rfl rfl ?_
          refine XR_nil ?_
          refine X_if rfl (fun h => ?_) (fun h => ?_)
          · refine X_seq ?_
            refine X_reg ?_
            refine XR_a (op_move rfl) rfl rfl ?_
            refine XR_a (op_assign rfl) rfl rfl ?_
            refine XR_a (op_assign rfl) rfl rfl ?_
            refine XR_nil ?_
            refine X_ret (.cons (.tmp rfl) (.cons (.tmp rfl) .nil)) ?_
            first
              | (exfalso; omega)
              | (rw [hdone (by omega) (by omega)] at hpp
                 refine ⟨_, by rw [← hpp], ?_⟩
                 rw [← hpp]
                 exact st.tail.tail)
          · refine X_skip ?_
            refine X_blk ?_
            refine X_reg ?_
            refine XR_a (op_move rfl) rfl rfl ?_
            refine XR_a (op_move rfl) rfl rfl ?_
            refine XR_wa (opl_append st 2 rfl (hrd7) (hlen7) (one_bytes _) (by simp; omega) rfl rfl rfl rfl rfl rfl rfl) rfl rfl rfl fun v hp st => ?_
            simp only [List.set_cons_zero, List.set_cons_succ] at st
            refine XR_a (op_assign rfl) rfl rfl ?_
            refine XR_nil ?_
            refine X_blk ?_
            rw [hstep h3 (by omega)] at hpp
            rw [← List.map_append] at st
            refine X_again (a + 2 + n, v, out ++ (l.drop (a + 2)).take n) (.cons rfl (.cons rfl (.nil _))) ⟨(st.perm (List.Perm.swap _ _ _)).tail.perm (List.Perm.swap _ _ _), h3, ?_, hpp⟩ (by simp only; omega)
            simp only [List.length_append, List.length_take]
            omega
      · refine XR_no rfl rfl ?_
        refine XR_no rfl rfl ?_
        refine XR_no rfl rfl ?_
        refine XR_a (op_pick_f rfl rfl) rfl rfl ?_
        refine XR_a (op_assign rfl) rfl rfl ?_
        refine XR_nil ?_
        refine X_else rfl ?_
        refine X_seq ?_
        refine X_reg ?_
        refine XR_a (op_move rfl) rfl rfl ?_
        refine XR_a (op_eql rfl rfl) rfl rfl ?_
        refine XR_a (op_assign rfl) rfl rfl ?_
        refine XR_nil ?_
        refine X_if rfl (fun h => ?_) (fun h => ?_)
        · refine X_seq ?_
          refine X_reg ?_
          refine XR_a (op_move rfl) rfl rfl ?_
          refine XR_a (op_assign rfl) rfl rfl ?_
          refine XR_a (op_assign rfl) rfl rfl ?_
          refine XR_nil ?_
          refine X_ret (.cons (.tmp rfl) (.cons (.tmp rfl) .nil)) ?_
          first
            | (exfalso; omega)
            | (rw [hdone (by omega) (by omega)] at hpp
               refine ⟨_, by rw [← hpp], ?_⟩
               rw [← hpp]
               exact st.tail.tail)
        · refine X_skip ?_
          refine X_blk ?_
          refine X_reg ?_
          refine XR_a (op_move rfl) rfl rfl ?_
          refine XR_a (op_move rfl) rfl rfl ?_
          refine XR_wa (opl_append st 2 rfl (hrd7) (hlen7) (one_bytes _) (by simp; omega) rfl rfl rfl rfl rfl rfl rfl) rfl rfl rfl fun v hp st => ?_
          simp only [List.set_cons_zero, List.set_cons_succ] at st
          refine XR_a (op_assign rfl) rfl rfl ?_
          refine XR_nil ?_
          refine X_blk ?_
          rw [hstep h3 (by omega)] at hpp
          rw [← List.map_append] at st
          refine X_again (a + 2 + n, v, out ++ (l.drop (a + 2)).take n) (.cons rfl (.cons rfl (.nil _))) ⟨(st.perm (List.Perm.swap _ _ _)).tail.perm (List.Perm.swap _ _ _), h3, ?_, hpp⟩ (by simp only; omega)
          simp only [List.length_append, List.length_take]
          omega
    · refine XR_wa (opl_call (fbytes_long (n := n) st.here hm (by omega) (by omega)) rfl (by kernel_rfl)) rfl rfl rfl ?_
      rintro _ hp ⟨rfl, st2⟩
      replace st := st.trans st2
      refine XR_a (op_assign rfl) rfl rfl ?_
      refine XR_nil ?_
      refine X_seq ?_
      refine X_block ?_
      refine X_seq ?_
      refine X_reg ?_
      refine XR_a (op_move rfl) rfl rfl ?_
      refine XR_wa (opl_call (fok_spec (st.cell 0 rfl rfl)) rfl (by kernel_rfl)) rfl rfl rfl ?_
      rintro _ _ ⟨rfl, rfl⟩
      refine XR_a (op_not rfl) rfl rfl ?_
      refine XR_a (op_assign rfl) rfl rfl ?_
      refine XR_nil ?_
      refine X_then rfl ?_
      refine X_seq ?_
      refine X_reg ?_
      refine XR_a (op_assign rfl) rfl rfl ?_
      refine XR_a (op_assign rfl) rfl rfl ?_
      refine XR_nil ?_
      refine X_ret (.cons (.tmp rfl) (.cons (.tmp rfl) .nil)) ?_
      rw [hlong (by omega)] at hpp
      refine ⟨_, by rw [← hpp], ?_⟩
      rw [← hpp]
      exact (st.nilrow 5 1).only
  · refine XR_wa (opl_call (fnum_fail st.here (hr.ext st.low) hl hm ha (getF_short (by rw [wid2, hl]; omega))) rfl (by kernel_rfl)) rfl rfl rfl ?_
    rintro _ hp ⟨rfl, st2⟩
    replace st := st.trans st2
    first | refine XR_a (op_convI rfl rfl (by simp only [inK]; omega)) rfl rfl ?_ | refine XR_a (op_conv rfl rfl) rfl rfl ?_
    refine XR_a (op_assign rfl) rfl rfl ?_
    refine XR_nil ?_
    refine X_seq ?_
    refine X_reg ?_
    refine XR_a (op_move rfl) rfl rfl ?_
    refine XR_a (op_move rfl) rfl rfl ?_
    refine XR_wa (opl_call (fbytes_bad (st.cell 0 rfl rfl)) rfl (by kernel_rfl)) rfl rfl rfl ?_
    rintro _ _ ⟨rfl, rfl⟩
    refine XR_a (op_assign rfl) rfl rfl ?_
    refine XR_nil ?_
    refine X_seq ?_
    refine X_block ?_
    refine X_seq ?_
    refine X_reg ?_
    refine XR_a (op_move rfl) rfl rfl ?_
    refine XR_wa (opl_call (fok_spec (st.cell 0 rfl rfl)) rfl (by kernel_rfl)) rfl rfl rfl ?_
    rintro _ _ ⟨rfl, rfl⟩
    refine XR_a (op_not rfl) rfl rfl ?_
    refine XR_a (op_assign rfl) rfl rfl ?_
    refine XR_nil ?_
    refine X_then rfl ?_
    refine X_seq ?_
    refine X_reg ?_
    refine XR_a (op_assign rfl) rfl rfl ?_
    refine XR_a (op_assign rfl) rfl rfl ?_
    refine XR_nil ?_
    refine X_ret (.cons (.tmp rfl) (.cons (.tmp rfl) .nil)) ?_
    rw [piecesF_short hl (by omega) ha] at hpp
    refine ⟨_, by rw [← hpp], ?_⟩
    rw [← hpp]
    exact (st.nilrow 5 1).only
end Go.Bn
end

section
set_option linter.unusedVariables false
set_option linter.unusedSimpArgs false
set_option maxHeartbeats 4000000
set_option maxRecDepth 20000
namespace Go.Bn
open Go Proofs
@[reducible] def pkG (pk q t1 t2 size : Nat) : Res := pt pk 224 [.pointer (some ⟨q, 0, none⟩), .pointer (some ⟨t1, 0, none⟩), .pointer (some ⟨t2, 0, none⟩), nV size]
theorem hql_of {ls : List Nat} (hok : lensOK ls) : (qcodes ls).length ≤ 1000 := Nat.le_trans (codesTo_len _ _) (Nat.le_trans hok.2.1 (by omega))
theorem pclass_spec {B pk q t t1 t2 size m c a fr : Nat} {A : Option Addr} {l : List UInt8} {ls : List Nat} {F : List Res} {h0 : Heap} (st0 : St B h0 h0 (rdG q A m c a :: tabR t (qcodes ls) 9 :: pkG pk q t1 t2 size :: F)) (hok : lensOK ls) (hrB : ∀ h', Low B h0 h' → Rd h' A (l.map byteV)) (hl : l.length = m) (hm : m ≤ 1073741824) (ha : a ≤ 8 * m) (hfr : ls.length ≤ fr + 30) (hfr2 : fr ≤ 300) :
  Ret Tryz.prog 205 [.pointer (some ⟨pk, 0, none⟩), .pointer (some ⟨t, 0, none⟩), nV fr] h0
   fun v h' => v = retVal [.agg (clsV (clsT ls fr (bitsB l) a).1).toArray, nV (clsT ls fr (bitsB l) a).2.2] ∧ St B h0 h' (rdG q A m c (clsT ls fr (bitsB l) a).2.1 :: tabR t (qcodes ls) 9 :: pkG pk q t1 t2 size :: F) := by
 have hbl := bitsB_length l
 have hsm := takeC_small hok ((bitsB l).drop a)
 have hle := takeC_le ls ((bitsB l).drop a)
 have hsy := takeC_sym hok (bs := (bitsB l).drop a)
 rw [List.length_drop, hbl, hl] at hle
 obtain ⟨T, hT⟩ : ∃ T, takeC ls ((bitsB l).drop a) = T := ⟨_, rfl⟩
 rw [hT] at hsm hle hsy
 obtain ⟨C, hCe⟩ : ∃ C, clsT ls fr (bitsB l) a = C := ⟨_, rfl⟩
 rw [show clsT ls fr (bitsB l) a = C from hCe]
 unfold clsT at hCe
 rw [hT] at hCe
 rw [hbl, hl] at hCe
 have hok2 := hok.2.1
 refine ret_of_X Tryz.func205 rfl rfl fun w0 hw0 => ?_
 simp only [argE, Nat.zero_add, Nat.reduceAdd]
 have st := st0
 refine X_seq (X_reg ?_)
 refine XR_wa (opl_new rfl) rfl rfl rfl ?_
 rintro _ hp ⟨p6, rfl, hnew⟩
 replace st := st.new hnew
 replace st : St B h0 hp ([pt p6 92 (clsV Kls.nil), rdG q A m c a, tabR t (qcodes ls) 9, pkG pk q t1 t2 size] ++ F) := st
 replace st := St.reF _ 4 st [1, 2, 3, 0] (by decide)
 simp only [List.map_cons, List.map_nil, getR, List.cons_append, List.nil_append] at st
 refine XA rfl rfl rfl (XR_nil (X_seq (X_reg (XV rfl rfl rfl (XV rfl rfl rfl (XR_a (op_nilCheck rfl) rfl rfl ?_))))))
 first | refine XR_a (op_field0 rfl rfl) rfl rfl ?_ | refine XR_a (op_fieldn rfl rfl) rfl rfl ?_
 refine XR_a (op_ld (st.cell 2 (i := 0) rfl rfl) rfl rfl rfl) rfl rfl ?_
 refine XR_wa (opl_call (qtake_spec st.here (qcodes_ok hok) (by omega) (hql_of hok) (hrB _ st.low) hl (by omega) ha) rfl (by kernel_rfl)) rfl rfl rfl ?_
 rintro _ hp ⟨rfl, st2⟩
 rw [takeQ_C hok, hT] at st2 ⊢
 replace st := st.trans st2
 clear st2
 refine XV rfl rfl rfl (XR_a (op_extract rfl rfl) rfl rfl (XR_a (op_extract rfl rfl) rfl rfl (XA rfl rfl rfl (XA rfl rfl rfl (XR_nil (X_seq (X_seq (X_reg (XV rfl rfl rfl ?_)))))))))
 refine XR_a (op_neq rfl rfl) rfl rfl ?_
 refine XV rfl rfl rfl ?_
 refine XR_if 26 rfl (fun h => ?_) (fun h => ?_)
 ·rw [if_pos (by omega)] at hCe
  subst hCe
  refine XR_no rfl rfl (XR_no rfl rfl (XR_no rfl rfl (XR_a (op_pick_t rfl rfl) rfl rfl (XR_nil (X_then rfl (X_seq (X_reg (XV rfl rfl rfl ?_))))))))
  refine XR_a (op_build (ps := [(0, nV T.1)]) (cs := (clsV ⟨T.1, 0, 0⟩).toArray) rfl rfl) rfl rfl ?_
  refine XV rfl rfl rfl ?_
  refine XR_wn (opl_store_whole (us := clsV ⟨T.1, 0, 0⟩) st 3 rfl rfl rfl rfl rfl (clsV_one _) rfl) rfl rfl fun _ hp st => ?_
  simp only [List.set_cons_zero, List.set_cons_succ] at st
  refine XA rfl rfl rfl (XR_nil ?_)
  refine X_ret (.cons (RV_agg (vs := clsV _) rfl rfl rfl (st.cells 3 rfl)) (.cons (.tmp rfl) .nil)) ?_
  exact ⟨rfl, (St.reF [_, _, _, _] 4 st [3, 0, 1, 2] (by decide)).tail⟩
 ·refine XV rfl rfl rfl (XV rfl rfl rfl ?_)
  refine XR_a (op_lss rfl rfl) rfl rfl ?_
  refine XR_a (op_pick_f rfl rfl) rfl rfl (XR_nil ?_)
  refine X_if rfl (fun h => ?_) (fun h => ?_)
  ·rw [if_pos (by omega)] at hCe
   subst hCe
   refine X_seq (X_reg (XV rfl rfl rfl ?_))
   refine XR_a (op_build (ps := [(0, nV T.1)]) (cs := (clsV ⟨T.1, 0, 0⟩).toArray) rfl rfl) rfl rfl ?_
   refine XV rfl rfl rfl ?_
   refine XR_wn (opl_store_whole (us := clsV ⟨T.1, 0, 0⟩) st 3 rfl rfl rfl rfl rfl (clsV_one _) rfl) rfl rfl fun _ hp st => ?_
   simp only [List.set_cons_zero, List.set_cons_succ] at st
   refine XA rfl rfl rfl (XR_nil ?_)
   refine X_ret (.cons (RV_agg (vs := clsV _) rfl rfl rfl (st.cells 3 rfl)) (.cons (.tmp rfl) .nil)) ?_
   exact ⟨rfl, (St.reF [_, _, _, _] 4 st [3, 0, 1, 2] (by decide)).tail⟩
  ·have hT0 : T.2.2 = 0 := by omega
   have hTl : T.1 < ls.length := (hsy hT0).1
   have hbc : bitsC (T.1 - fr) ≤ 13 := by unfold bitsC; split <;> omega
   rw [if_neg (by omega)] at hCe
   have hwd : wd 32 ((bitsC (T.1 - fr) : Nat) : Int) = bitsC (T.1 - fr) := wd_nat (by omega)
   refine X_skip (X_seq (X_reg (XV rfl rfl rfl (XV rfl rfl rfl ?_))))
   first | refine XR_a (op_subN rfl rfl (by omega) (by simp only [inK]; omega)) rfl rfl ?_ | refine XR_a (op_subI rfl rfl (by simp only [inK]; omega)) rfl rfl ?_ | refine XR_a (op_sub rfl rfl) rfl rfl ?_
   refine XR_wa (opl_call (sbase_yes (i := T.1 - fr) (by omega) (by omega) _) rfl (by kernel_rfl)) rfl rfl rfl ?_
   rintro _ _ ⟨rfl, rfl⟩
   refine XV rfl rfl rfl (XR_a (op_extract rfl rfl) rfl rfl (XR_a (op_extract rfl rfl) rfl rfl (XR_a (op_extract rfl rfl) rfl rfl (XA rfl rfl rfl (XA rfl rfl rfl (XA rfl rfl rfl (XR_nil (X_seq (X_reg ?_)))))))))
   refine XV rfl rfl rfl (XR_a (op_nilCheck rfl) rfl rfl ?_)
   first | refine XR_a (op_field0 rfl rfl) rfl rfl ?_ | refine XR_a (op_fieldn rfl rfl) rfl rfl ?_
   refine XR_a (op_ld (st.cell 2 (i := 0) rfl rfl) rfl rfl rfl) rfl rfl ?_
   refine XV rfl rfl rfl ?_
   refine XR_wa (opl_call (rtake_spec (k := ((bitsC (T.1 - fr) : Nat) : Int)) st.here (hrB _ st.low) hl (by omega) (by omega)) rfl (by kernel_rfl)) rfl rfl rfl ?_
   rintro _ hp ⟨rfl, st2⟩
   rw [hwd] at st2 ⊢
   replace st := st.trans st2
   clear st2
   refine XV rfl rfl rfl (XR_a (op_extract rfl rfl) rfl rfl (XR_a (op_extract rfl rfl) rfl rfl (XA rfl rfl rfl (XA rfl rfl rfl (XR_nil (X_seq (X_seq (X_reg (XV rfl rfl rfl ?_)))))))))
   first | refine XR_a (op_notd rfl) rfl rfl ?_ | refine XR_a (op_not rfl) rfl rfl ?_
   refine XR_nil ?_
   refine X_if rfl (fun h => ?_) (fun h => ?_)
   ·have hn : ¬ bitsC (T.1 - fr) ≤ 8 * m - (a + T.2.1) := by simpa using h
    rw [if_neg hn] at st
    rw [if_pos (by omega)] at hCe
    subst hCe
    refine X_seq (X_reg ?_)
    refine XR_a (op_build (ps := []) (cs := (clsV Kls.nil).toArray) rfl rfl) rfl rfl ?_
    refine XR_wn (opl_store_whole (us := clsV Kls.nil) st 3 rfl rfl rfl rfl rfl (clsV_one _) rfl) rfl rfl fun _ hp st => ?_
    simp only [List.set_cons_zero, List.set_cons_succ] at st
    refine XA rfl rfl rfl (XR_nil ?_)
    refine X_ret (.cons (RV_agg (vs := clsV _) rfl rfl rfl (st.cells 3 rfl)) (.cons (.tmp rfl) .nil)) ?_
    exact ⟨rfl, (St.reF [_, _, _, _] 4 st [3, 0, 1, 2] (by decide)).tail⟩
   ·have hn : bitsC (T.1 - fr) ≤ 8 * m - (a + T.2.1) := by simpa using h
    rw [if_pos hn] at st
    rw [if_neg (by omega)] at hCe
    subst hCe
    have hnl := numB_lt (bitsB l) (a + T.2.1) (bitsC (T.1 - fr))
    refine X_skip (X_seq (X_reg (XV rfl rfl rfl (XV rfl rfl rfl (XV rfl rfl rfl ?_)))))
    refine XR_a (op_build (ps := [(0, nV T.1), (1, nV (bitsC (T.1 - fr))), (2, .int .u32 ((numB (bitsB l) (a + T.2.1) (bitsC (T.1 - fr)) : Nat) : Int))]) (cs := (clsV ⟨T.1, bitsC (T.1 - fr), (numB (bitsB l) (a + T.2.1) (bitsC (T.1 - fr)) : Nat)⟩).toArray) (by rw [if_pos hn]; rfl) rfl) rfl rfl ?_
    refine XR_wn (opl_store_whole (us := clsV ⟨T.1, bitsC (T.1 - fr), (numB (bitsB l) (a + T.2.1) (bitsC (T.1 - fr)) : Nat)⟩) st 3 rfl rfl rfl rfl rfl (clsV_one _) rfl) rfl rfl fun _ hp st => ?_
    simp only [List.set_cons_zero, List.set_cons_succ] at st
    refine XA rfl rfl rfl (XR_nil ?_)
    refine X_ret (.cons (RV_agg (vs := clsV _) rfl rfl rfl (st.cells 3 rfl)) (.cons (.tmp rfl) .nil)) ?_
    exact ⟨rfl, (St.reF [_, _, _, _] 4 st [3, 0, 1, 2] (by decide)).tail⟩
theorem pend_spec {B pk q t1 t2 size m c a so : Nat} {A : Option Addr} {l : List UInt8} {F : List Res} {hb h0 : Heap} (st : St B hb h0 (rdG q A m c a :: pkG pk q t1 t2 size :: F)) (hr : Rd h0 A (l.map byteV)) (hl : l.length = m) (hm : m ≤ 1073741824) (ha : a ≤ 8 * m) :
  Ret Tryz.prog 203 [.pointer (some ⟨pk, 0, none⟩), nV so] h0 fun v h' => v = nV (endE (bitsB l) size a so) ∧ h0 = h' := by
 have hbl := bitsB_length l
 obtain ⟨X, hX⟩ : ∃ X, endE (bitsB l) size a so = X := ⟨_, rfl⟩
 rw [hX]
 unfold endE at hX
 rw [hbl, hl] at hX
 have hw8 : wd 32 8 = 8 := rfl
 refine ret_of_X Tryz.func203 rfl rfl fun w0 hw0 => ?_
 simp only [argE, Nat.zero_add, Nat.reduceAdd]
 refine X_seq (X_reg (XA rfl rfl rfl (XR_nil (X_seq (X_block (X_seq (X_reg (XV rfl rfl rfl (XV rfl rfl rfl ?_)))))))))
 refine XR_a (op_nilCheck rfl) rfl rfl ?_
 first | refine XR_a (op_field0 rfl rfl) rfl rfl ?_ | refine XR_a (op_fieldn rfl rfl) rfl rfl ?_
 refine XR_a (op_ld (st.cell 1 (i := 3) rfl rfl) rfl rfl rfl) rfl rfl ?_
 refine XR_a (op_lss rfl rfl) rfl rfl ?_
 refine XA rfl rfl rfl (XR_nil ?_)
 refine X_if rfl (fun h => ?_) (fun h => ?_)
 ·refine X_seq (X_reg (XA rfl rfl rfl (XR_nil ?_)))
  refine X_ret (.cons (.tmp rfl) .nil) ?_
  rw [if_pos (by omega)] at hX
  subst hX
  exact ⟨rfl, rfl⟩
 ·refine X_seq (X_reg (XV rfl rfl rfl (XR_a (op_nilCheck rfl) rfl rfl ?_)))
  first | refine XR_a (op_field0 rfl rfl) rfl rfl ?_ | refine XR_a (op_fieldn rfl rfl) rfl rfl ?_
  refine XR_a (op_ld (st.cell 1 (i := 0) rfl rfl) rfl rfl rfl) rfl rfl ?_
  refine XR_wa (opl_call (rleft_spec (st.cell 0 rfl rfl) (st.cell 0 rfl rfl) (by omega) ha) rfl (by kernel_rfl)) rfl rfl rfl ?_
  rintro _ _ ⟨rfl, rfl⟩
  refine XR_a (op_geq rfl rfl) rfl rfl ?_
  refine XV rfl rfl rfl ?_
  refine XR_if 19 rfl (fun h => ?_) (fun h => ?_)
  ·refine XR_no rfl rfl (XR_no rfl rfl (XR_no rfl rfl (XR_no rfl rfl (XR_no rfl rfl (XR_no rfl rfl (XR_a (op_pick_t rfl rfl) rfl rfl (XA rfl rfl rfl (XR_nil (X_then rfl ?_)))))))))
   refine X_seq (X_reg (XA rfl rfl rfl (XR_nil ?_)))
   refine X_ret (.cons (.tmp rfl) .nil) ?_
   rw [if_neg (by omega), if_pos (by omega)] at hX
   subst hX
   exact ⟨rfl, rfl⟩
  ·refine XV rfl rfl rfl (XR_a (op_nilCheck rfl) rfl rfl ?_)
   first | refine XR_a (op_field0 rfl rfl) rfl rfl ?_ | refine XR_a (op_fieldn rfl rfl) rfl rfl ?_
   refine XR_a (op_ld (st.cell 1 (i := 0) rfl rfl) rfl rfl rfl) rfl rfl ?_
   refine XR_wa (opl_call (rpeek_spec (k := 8) (st.cell 0 rfl rfl) (st.cell 0 rfl rfl) hr hl (by omega) ha) rfl (by kernel_rfl)) rfl rfl rfl ?_
   rintro _ _ ⟨rfl, rfl⟩
   rw [hw8]
   refine XR_a (op_neq rfl rfl) rfl rfl ?_
   refine XR_a (op_pick_f rfl rfl) rfl rfl (XA rfl rfl rfl (XR_nil ?_))
   refine X_if rfl (fun h => ?_) (fun h => ?_)
   ·refine X_seq (X_reg (XA rfl rfl rfl (XR_nil ?_)))
    refine X_ret (.cons (.tmp rfl) .nil) ?_
    rw [if_neg (by omega), if_pos (by omega)] at hX
    subst hX
    exact ⟨rfl, rfl⟩
   ·refine X_skip (X_blk (X_seq (X_reg (XA rfl rfl rfl (XR_nil ?_)))))
    refine X_ret (.cons (.tmp rfl) .nil) ?_
    rw [if_neg (by omega), if_neg (by omega)] at hX
    subst hX
    exact ⟨rfl, rfl⟩
theorem ptoken_spec {B pk q t1 t2 size : Nat} {t : Tok} {v : Value} {out : List UInt8} {F : List Res} {h0 : Heap} (st0 : St B h0 h0 (row 5 1 v (out.map byteV) :: pkG pk q t1 t2 size :: F)) (hs : size ≤ 1048576) (ho : out.length ≤ size) (ht : t.right) (hb : 0 ≤ t.byte ∧ t.byte < 256) :
  Ret Tryz.prog 206 [.pointer (some ⟨pk, 0, none⟩), v, .agg (tokV t).toArray] h0
   fun u h' => ∃ v', ((out.length : Int) < t.dist ∧ u = retVal [v', nV 3] ∧ St B h0 h' (row 5 1 v' (out.map byteV) :: pkG pk q t1 t2 size :: F)) ∨
    (¬ (out.length : Int) < t.dist ∧ size - out.length < t.size ∧ u = retVal [v', nV 5] ∧ St B h0 h' (row 5 1 v' (out.map byteV) :: pkG pk q t1 t2 size :: F)) ∨
    (¬ (out.length : Int) < t.dist ∧ ¬ size - out.length < t.size ∧ u = retVal [v', nV 0] ∧ St B h0 h' (row 5 1 v' ((expT t out).map byteV) :: pkG pk q t1 t2 size :: F)) := by
 obtain ⟨hs1, hs2, hs3⟩ := Tok.size_le ht
 have htr := ht
 unfold Tok.right at htr
 refine ret_of_X Tryz.func206 rfl rfl fun w0 hw0 => ?_
 simp only [argE, Nat.zero_add, Nat.reduceAdd]
 have st := st0
 obtain ⟨A1, n1, c1, rfl, hl1, hc1, _⟩ := st.row 0 rfl
 have hl1 : out.length = n1 := by simpa using hl1
 refine X_seq (X_reg ?_)
 refine XR_wa (opl_bx (cs := tokV t) rfl rfl) rfl rfl rfl ?_
 rintro _ hp ⟨p5, rfl, hnew⟩
 replace st := st.new hnew
 refine XA rfl rfl rfl (XA rfl rfl rfl (XR_nil (X_seq (X_block (X_seq (X_reg ?_))))))
 first | refine XR_a (op_field0 rfl rfl) rfl rfl ?_ | refine XR_a (op_fieldn rfl rfl) rfl rfl ?_
 refine XR_a (op_ld (st.cell 0 (i := 2) rfl rfl) rfl rfl rfl) rfl rfl ?_
 refine XV rfl rfl rfl ?_
 refine XR_a (op_len rfl rfl rfl) rfl rfl ?_
 refine XR_a (op_gtr rfl rfl) rfl rfl ?_
 refine XA rfl rfl rfl (XR_nil ?_)
 refine X_if rfl (fun h => ?_) (fun h => ?_)
 ·refine X_seq (X_reg (XV rfl rfl rfl (XA rfl rfl rfl (XA rfl rfl rfl (XR_nil ?_)))))
  refine X_ret (.cons (.tmp rfl) (.cons (.tmp rfl) .nil)) ?_
  exact ⟨_, .inl ⟨by omega, rfl, st.tail⟩⟩
 ·refine X_seq ?_
  refine X_draw byKind (by kernel_rfl) (by kernel_rfl) ?_
  first | refine XR_a (op_field0 rfl rfl) rfl rfl ?_ | refine XR_a (op_fieldn rfl rfl) rfl rfl ?_
  refine XR_a (op_ld (st.cell 0 (i := 1) rfl rfl) rfl rfl rfl) rfl rfl ?_
  refine XR_a (op_max2 rfl rfl) rfl rfl ?_
  refine XV rfl rfl rfl (XR_a (op_nilCheck rfl) rfl rfl ?_)
  first | refine XR_a (op_field0 rfl rfl) rfl rfl ?_ | refine XR_a (op_fieldn rfl rfl) rfl rfl ?_
  refine XR_a (op_ld (st.cell 2 (i := 3) rfl rfl) rfl rfl rfl) rfl rfl ?_
  refine XV rfl rfl rfl ?_
  refine XR_a (op_len rfl rfl rfl) rfl rfl ?_
  refine XR_a (op_subI rfl rfl (by simp only [inK]; omega)) rfl rfl ?_
  refine XR_a (op_gtr rfl rfl) rfl rfl ?_
  refine XA rfl rfl rfl (XR_nil ?_)
  refine X_if rfl (fun h => ?_) (fun h => ?_)
  ·refine X_seq (X_reg (XV rfl rfl rfl (XA rfl rfl rfl (XA rfl rfl rfl (XR_nil ?_)))))
   refine X_ret (.cons (.tmp rfl) (.cons (.tmp rfl) .nil)) ?_
   exact ⟨_, .inr (.inl ⟨by omega, by omega, rfl, st.tail⟩)⟩
  ·refine X_seq (X_reg ?_)
   first | refine XR_a (op_field0 rfl rfl) rfl rfl ?_ | refine XR_a (op_fieldn rfl rfl) rfl rfl ?_
   refine XR_a (op_ld (st.cell 0 (i := 1) rfl rfl) rfl rfl rfl) rfl rfl ?_
   refine XR_a (op_eql rfl rfl) rfl rfl ?_
   refine XA rfl rfl rfl (XR_nil ?_)
   refine X_if rfl (fun h => ?_) (fun h => ?_)
   ·refine X_seq (X_reg (XV rfl rfl rfl ?_))
    first | refine XR_a (op_field0 rfl rfl) rfl rfl ?_ | refine XR_a (op_fieldn rfl rfl) rfl rfl ?_
    refine XR_a (op_ld (st.cell 0 (i := 0) rfl rfl) rfl rfl rfl) rfl rfl ?_
    refine XR_wa (opl_var1 rfl rfl rfl) rfl rfl rfl ?_
    rintro _ hp ⟨A, rfl, hx, hrd⟩
    have st := st.ext hx
    refine XR_wa (opl_append st 1 rfl (hrd) (rfl) (by intro u hu; simp at hu; subst hu; rfl) (by simp; omega) rfl rfl rfl rfl rfl rfl rfl) rfl rfl rfl fun v hp st => ?_
    simp only [List.set_cons_zero, List.set_cons_succ] at st
    refine XA rfl rfl rfl (XA rfl rfl rfl (XR_nil ?_))
    refine X_ret (.cons (.tmp rfl) (.cons (.tmp rfl) .nil)) ?_
    have e1 : [Value.int .u8 t.byte] = [UInt8.ofNat t.byte.toNat].map byteV := by
     rw [List.map_cons, List.map_nil]
     unfold byteV
     rw [UInt8.toNat_ofNat', Nat.mod_eq_of_lt (by omega), Int.toNat_of_nonneg hb.1]
    rw [e1, ← List.map_append, show out ++ [UInt8.ofNat t.byte.toNat] = expT t out by unfold expT; rw [if_pos (by omega)]] at st
    exact ⟨_, .inr (.inr ⟨by omega, by omega, rfl, st.tail⟩)⟩
   ·refine X_skip (X_blk (X_seq (X_seq (X_reg ?_))))
    first | refine XR_a (op_field0 rfl rfl) rfl rfl ?_ | refine XR_a (op_fieldn rfl rfl) rfl rfl ?_
    refine XR_a (op_ld (st.cell 0 (i := 1) rfl rfl) rfl rfl rfl) rfl rfl ?_
    refine XV rfl rfl rfl (XR_nil (X_block ?_))
    have hl0 : ¬ t.len = 0 := by omega
    rw [if_neg hl0] at htr
    have hex : expT t out = copyT t.len.toNat t.dist.toNat out := by unfold expT; rw [if_neg hl0]
    refine X_loop (fun s => t.len.toNat - s.1) (fun s => [(0, .pointer (some ⟨pk, 0, none⟩)), (1, s.2.1), (5, .pointer (some ⟨p5, 0, none⟩)), (38, .int .i64 t.len), (39, nV s.1)])
     (fun (s : Nat × Value × List UInt8) hp => s.1 ≤ t.len.toNat ∧ s.2.2.length = n1 + s.1 ∧ copyT (t.len.toNat - s.1) t.dist.toNat s.2.2 = expT t out ∧ St B h0 hp (pt p5 65 (tokV t) :: row 5 1 s.2.1 (s.2.2.map byteV) :: pkG pk q t1 t2 size :: F))
     (0, _, out) (.cons rfl (.cons rfl (.cons rfl (.cons rfl (.cons rfl (.nil _)))))) ⟨Nat.zero_le _, hl1, by rw [hex]; rfl, st⟩ ?_
    clear st
    rintro ⟨i, v, o2⟩ hp ⟨hi, hlo, hcp, st⟩
    simp only at hi hlo hcp st ⊢
    obtain ⟨A2, n2, c2, rfl, hl2, hc2, _, hrd2⟩ := st.row 1 rfl
    have hl2 : o2.length = n2 := by simpa using hl2
    refine X_seq (X_reg ?_)
    refine XR_a (op_lss rfl rfl) rfl rfl ?_
    refine XR_nil (X_seq ?_)
    refine X_if rfl (fun h => ?_) (fun h => ?_)
    ·obtain ⟨j, hj⟩ : ∃ j, t.len.toNat - i = j + 1 := ⟨t.len.toNat - i - 1, by omega⟩
     rw [hj, copyT] at hcp
     obtain ⟨x, hx⟩ : ∃ x, o2.length - t.dist.toNat = x := ⟨_, rfl⟩
     rw [hx] at hcp
     have hxl : x < o2.length := by omega
     obtain ⟨g2, g3, rfl, hcell⟩ := hrd2.at_ (by rw [List.length_map]; omega)
     have hcx := hcell x (byteV o2[x]) (by simp [hxl])
     rw [show o2.getD x 0 = o2[x] by simp [List.getD, hxl]] at hcp
     refine X_skip (X_seq (X_block (X_reg (XV rfl rfl rfl (XV rfl rfl rfl (XV rfl rfl rfl ?_))))))
     refine XR_a (op_len rfl rfl rfl) rfl rfl ?_
     first | refine XR_a (op_field0 rfl rfl) rfl rfl ?_ | refine XR_a (op_fieldn rfl rfl) rfl rfl ?_
     refine XR_a (op_ld (st.cell 0 (i := 2) rfl rfl) rfl rfl rfl) rfl rfl ?_
     refine XR_a (op_subI rfl rfl (by simp only [inK]; omega)) rfl rfl ?_
     refine XR_as (nV x) (congrArg (Value.int .i64) (by omega)) ?_
     refine XR_a (op_index1 (i := x) rfl rfl rfl (by omega)) rfl rfl ?_
     refine XR_a (op_ld (hcx) rfl rfl rfl) rfl rfl ?_
     refine XR_wa (opl_var1 rfl rfl rfl) rfl rfl rfl ?_
     rintro _ hp ⟨A, rfl, hx, hrd⟩
     have st := st.ext hx
     refine XR_wa (opl_append st 1 rfl (hrd) (rfl) (by intro u hu; simp at hu; subst hu; rfl) (by simp; omega) rfl rfl rfl rfl rfl rfl rfl) rfl rfl rfl fun v hp st => ?_
     simp only [List.set_cons_zero, List.set_cons_succ] at st
     rw [show [byteV o2[x]] = [o2[x]].map byteV from rfl, ← List.map_append] at st
     refine XA rfl rfl rfl (XR_nil (X_blk (X_reg ?_)))
     first | refine XR_a (op_addN (n := 1) rfl rfl (by simp only [inK]; omega)) rfl rfl ?_ | refine XR_a (op_addI rfl rfl (by simp only [inK]; omega)) rfl rfl ?_ | refine XR_a (op_add rfl rfl) rfl rfl ?_
     refine XV rfl rfl rfl (XR_nil ?_)
     refine X_again (i + 1, _, o2 ++ [o2[x]]) (.cons rfl (.cons rfl (.cons rfl (.cons rfl (.cons rfl (.nil _)))))) ⟨by simp only; omega, by simp; omega, ?_, st⟩ (by simp only; omega)
     simp only
     rw [show t.len.toNat - (i + 1) = j by omega]
     exact hcp
    ·refine X_exit rfl (X_seq (X_reg (XV rfl rfl rfl (XA rfl rfl rfl (XA rfl rfl rfl (XR_nil ?_))))))
     refine X_ret (.cons (.tmp rfl) (.cons (.tmp rfl) .nil)) ?_
     rw [show t.len.toNat - i = 0 by omega, copyT] at hcp
     rw [hcp] at st
     exact ⟨_, .inr (.inr ⟨by omega, by omega, rfl, st.tail⟩)⟩
end Go.Bn
end

section
set_option linter.unusedVariables false
set_option linter.unusedSimpArgs false
set_option maxHeartbeats 4000000
set_option maxRecDepth 20000
namespace Go.Bn
open Go Proofs
def tokE (t : Tok) (size n : Nat) : Nat := if (n : Int) < t.dist then 3 else if size - n < t.size then 5 else 0
def tokO (t : Tok) (size : Nat) (out : List UInt8) : List UInt8 := if tokE t size out.length = 0 then expT t out else out
theorem ptoken2 {B pk q t1 t2 size : Nat} {t : Tok} {v : Value} {out : List UInt8} {F : List Res} {h0 : Heap} (st0 : St B h0 h0 (row 5 1 v (out.map byteV) :: pkG pk q t1 t2 size :: F)) (hs : size ≤ 1048576) (ho : out.length ≤ size) (ht : t.right) (hb : 0 ≤ t.byte ∧ t.byte < 256) :
  Ret Tryz.prog 206 [.pointer (some ⟨pk, 0, none⟩), v, .agg (tokV t).toArray] h0
   fun u h' => ∃ v', u = retVal [v', nV (tokE t size out.length)] ∧ St B h0 h' (row 5 1 v' ((tokO t size out).map byteV) :: pkG pk q t1 t2 size :: F) := by
 refine (ptoken_spec st0 hs ho ht hb).mono ?_
 rintro u h' ⟨v', h⟩
 refine ⟨v', ?_⟩
 unfold tokO tokE
 rcases h with ⟨h1, rfl, st⟩ | ⟨h1, h2, rfl, st⟩ | ⟨h1, h2, rfl, st⟩
 ·rw [if_pos h1]; exact ⟨rfl, st⟩
 ·rw [if_neg h1, if_pos h2]; exact ⟨rfl, st⟩
 ·rw [if_neg h1, if_neg h2]; exact ⟨rfl, st⟩
theorem pmore_spec {B pk q t1 t2 size m c a : Nat} {A : Option Addr} {l out : List UInt8} {la lb : List Nat} {v : Value} {F : List Res} {h0 : Heap} (st0 : St B h0 h0 (row 5 1 v (out.map byteV) :: rdG q A m c a :: tabR t1 (qcodes la) 9 :: tabR t2 (qcodes lb) 9 :: pkG pk q t1 t2 size :: F))
  (oka : lensOK la) (okb : lensOK lb) (na : la.length = 273) (nb : lb.length = 30) (hrB : ∀ h', Low B h0 h' → Rd h' A (l.map byteV)) (hl : l.length = m) (hm : m ≤ 1073741824) (ha : a ≤ 8 * m) (hs : size ≤ 1048576) (ho : out.length ≤ size) :
  Ret Tryz.prog 204 [.pointer (some ⟨pk, 0, none⟩), v] h0
   fun u h' => ∃ v', u = retVal [v', .bool (mvP la lb (bitsB l) size a out).2.2.1, nV (mvP la lb (bitsB l) size a out).2.2.2] ∧
    St B h0 h' (row 5 1 v' ((mvP la lb (bitsB l) size a out).2.1.map byteV) :: rdG q A m c (mvP la lb (bitsB l) size a out).1 :: tabR t1 (qcodes la) 9 :: tabR t2 (qcodes lb) 9 :: pkG pk q t1 t2 size :: F) := by
 have hbl := bitsB_length l
 obtain ⟨M, hM⟩ : ∃ M, mvP la lb (bitsB l) size a out = M := ⟨_, rfl⟩
 rw [hM]
 unfold mvP at hM
 obtain ⟨N, hN⟩ : ∃ N, nextT la lb (bitsB l) a = N := ⟨_, rfl⟩
 rw [hN] at hM
 have hnx := nextT_at (la := la) (lb := lb) (bs := bitsB l) (a := a) oka okb (by omega)
 rw [hN] at hnx
 have hC1 := clsT_num (fr := 257) (bs := bitsB l) (a := a) oka (by omega) (by omega)
 have hA1 := clsT_at (fr := 257) (bs := bitsB l) (a := a) oka (by omega)
 unfold nextT at hN
 obtain ⟨C, hC⟩ : ∃ C, clsT la 257 (bitsB l) a = C := ⟨_, rfl⟩
 rw [hC] at hN hC1 hA1
 have hC2 := clsT_num (fr := 0) (bs := bitsB l) (a := C.2.1) okb (by omega) (by omega)
 obtain ⟨D, hD⟩ : ∃ D, clsT lb 0 (bitsB l) C.2.1 = D := ⟨_, rfl⟩
 rw [hD] at hN hC2
 refine ret_of_X Tryz.func204 rfl rfl fun w0 hw0 => ?_
 simp only [argE, Nat.zero_add, Nat.reduceAdd]
 have st := st0
 obtain ⟨A1, n1, c1, rfl, hl1, hc1, _⟩ := st.row 0 rfl
 have hl1 : out.length = n1 := by simpa using hl1
 refine X_seq (X_reg (XA rfl rfl rfl (XA rfl rfl rfl (XA rfl rfl rfl (XR_nil (X_seq (X_reg (XV rfl rfl rfl (XV rfl rfl rfl ?_)))))))))
 refine XR_a (op_nilCheck rfl) rfl rfl ?_
 first | refine XR_a (op_field0 rfl rfl) rfl rfl ?_ | refine XR_a (op_fieldn rfl rfl) rfl rfl ?_
 refine XR_a (op_ld (st.cell 4 (i := 1) rfl rfl) rfl rfl rfl) rfl rfl ?_
 replace st := St.reF [_, _, _, _, _] 5 st [1, 2, 4, 0, 3] (by decide)
 simp only [List.map_cons, List.map_nil, getR, List.cons_append, List.nil_append] at st
 refine XR_wa (opl_call (pclass_spec (fr := 257) st.here oka (fun h' hh => hrB h' (st.low.trans hh)) hl hm ha (by omega) (by omega)) rfl (by kernel_rfl)) rfl rfl rfl ?_
 rintro _ hp ⟨rfl, st2⟩
 rw [hC] at st2 ⊢
 replace st := st.trans st2
 clear st2
 replace st := St.reF [_, _, _, _, _] 5 st [3, 0, 1, 4, 2] (by decide)
 simp only [List.map_cons, List.map_nil, getR, List.cons_append, List.nil_append] at st
 refine XV rfl rfl rfl (XR_a (op_extract rfl rfl) rfl rfl (XR_a (op_extract rfl rfl) rfl rfl ?_))
 refine XR_wa (opl_new rfl) rfl rfl rfl ?_
 rintro _ hp ⟨p7, rfl, hnew⟩
 replace st := st.new hnew
 replace st := St.reF [_, _, _, _, _, _] 6 st [1, 2, 3, 4, 5, 0] (by decide)
 simp only [List.map_cons, List.map_nil, getR, List.cons_append, List.nil_append] at st
 refine XR_wn (opl_store_whole (us := clsV C.1) st 5 rfl rfl rfl rfl rfl (clsV_one _) rfl) rfl rfl fun _ hp st => ?_
 simp only [List.set_cons_zero, List.set_cons_succ] at st
 refine XA rfl rfl rfl (XR_nil (X_seq (X_seq (X_reg (XV rfl rfl rfl ?_)))))
 refine XR_a (op_neq rfl rfl) rfl rfl ?_
 refine XR_nil ?_
 refine X_if rfl (fun h => ?_) (fun h => ?_)
 ·rw [if_pos (by omega)] at hN
  subst hN
  simp only [if_pos] at hM
  rw [if_pos (by omega)] at hM
  subst hM
  refine X_seq (X_reg (XV rfl rfl rfl (XV rfl rfl rfl (XA rfl rfl rfl (XA rfl rfl rfl (XA rfl rfl rfl (XR_nil ?_)))))))
  refine X_ret (.cons (.tmp rfl) (.cons (.tmp rfl) (.cons (.tmp rfl) .nil))) ?_
  exact ⟨_, rfl, (St.reF [_, _, _, _, _, _] 6 st [5, 0, 1, 2, 3, 4] (by decide)).tail⟩
 ·have hCe : C.2.2 = 0 := by omega
  refine X_skip (X_seq (X_seq (X_reg ?_)))
  first | refine XR_a (op_field0 rfl rfl) rfl rfl ?_ | refine XR_a (op_fieldn rfl rfl) rfl rfl ?_
  refine XR_a (op_ld (st.cell 5 (i := 0) rfl rfl) rfl rfl rfl) rfl rfl ?_
  refine XR_a (op_eql rfl rfl) rfl rfl ?_
  refine XR_nil ?_
  refine X_if rfl (fun h => ?_) (fun h => ?_)
  ·rw [if_pos (by omega)] at hN
   subst hN
   simp only [if_pos] at hM
   rw [if_neg (by omega)] at hM
   subst hM
   replace st := St.reF [_, _, _, _, _, _] 6 st [1, 4, 0, 2, 3, 5] (by decide)
   simp only [List.map_cons, List.map_nil, getR, List.cons_append, List.nil_append] at st
   refine X_seq (X_reg (XV rfl rfl rfl (XV rfl rfl rfl (XV rfl rfl rfl ?_))))
   refine XR_a (op_len rfl rfl rfl) rfl rfl ?_
   refine XR_wa (opl_call (pend_spec (so := n1) st (hrB _ st.low) hl hm (by omega)) rfl (by kernel_rfl)) rfl rfl rfl ?_
   rintro _ _ ⟨rfl, rfl⟩
   refine XA rfl rfl rfl (XA rfl rfl rfl (XA rfl rfl rfl (XR_nil ?_)))
   refine X_ret (.cons (.tmp rfl) (.cons (.tmp rfl) (.cons (.tmp rfl) .nil))) ?_
   rw [hl1]
   exact ⟨_, rfl, (St.reF [_, _, _, _, _, _] 6 st [5, 2, 0, 3, 4, 1] (by decide)).tail⟩
  ·rw [if_neg (by omega)] at hN
   refine X_skip (X_seq (X_reg ?_))
   refine XR_a (op_ldA (vs := clsV C.1) (st.cells 5 rfl) rfl rfl rfl rfl) rfl rfl ?_
   refine XR_a (op_build (ps := [(0, .agg (clsV C.1).toArray)]) (cs := (syV ⟨C.1, Kls.nil, false⟩).toArray) rfl rfl) rfl rfl ?_
   refine XR_wa (opl_new rfl) rfl rfl rfl ?_
   rintro _ hp ⟨p9, rfl, hnew⟩
   replace st := st.new hnew
   replace st := St.reF [_, _, _, _, _, _, _] 7 st [1, 2, 3, 4, 5, 6, 0] (by decide)
   simp only [List.map_cons, List.map_nil, getR, List.cons_append, List.nil_append] at st
   refine XR_wn (opl_store_whole (us := syV ⟨C.1, Kls.nil, false⟩) st 6 rfl rfl rfl rfl rfl (syV_one _) rfl) rfl rfl fun _ hp st => ?_
   simp only [List.set_cons_zero, List.set_cons_succ] at st
   refine XR_nil (X_seq (X_seq (X_reg ?_)))
   first | refine XR_a (op_field0 rfl rfl) rfl rfl ?_ | refine XR_a (op_fieldn rfl rfl) rfl rfl ?_
   refine XR_a (op_ld (st.cell 5 (i := 0) rfl rfl) rfl rfl rfl) rfl rfl ?_
   refine XR_a (op_gtr rfl rfl) rfl rfl ?_
   refine XR_nil ?_
   refine X_if rfl (fun h => ?_) (fun h => ?_)
   ·rw [if_pos (by omega)] at hN
    replace st := St.reF [_, _, _, _, _, _, _] 7 st [1, 3, 4, 0, 2, 5, 6] (by decide)
    simp only [List.map_cons, List.map_nil, getR, List.cons_append, List.nil_append] at st
    refine X_seq (X_seq (X_reg (XV rfl rfl rfl (XV rfl rfl rfl (XR_a (op_nilCheck rfl) rfl rfl ?_)))))
    first | refine XR_a (op_field0 rfl rfl) rfl rfl ?_ | refine XR_a (op_fieldn rfl rfl) rfl rfl ?_
    refine XR_a (op_ld (st.cell 2 (i := 2) rfl rfl) rfl rfl rfl) rfl rfl ?_
    refine XR_wa (opl_call (pclass_spec (fr := 0) st.here okb (fun h' hh => hrB h' (st.low.trans hh)) hl hm (by omega) (by omega) (by omega)) rfl (by kernel_rfl)) rfl rfl rfl ?_
    rintro _ hp ⟨rfl, st2⟩
    rw [hD] at st2 ⊢
    replace st := st.trans st2
    clear st2
    replace st := St.reF [_, _, _, _, _, _, _] 7 st [3, 0, 4, 1, 2, 5, 6] (by decide)
    simp only [List.map_cons, List.map_nil, getR, List.cons_append, List.nil_append] at st
    refine XV rfl rfl rfl (XR_a (op_extract rfl rfl) rfl rfl (XR_a (op_extract rfl rfl) rfl rfl ?_))
    first | refine XR_a (op_field0 rfl rfl) rfl rfl ?_ | refine XR_a (op_fieldn rfl rfl) rfl rfl ?_
    refine XR_wn (opl_store_pts (us := clsV D.1) st 6 rfl rfl rfl rfl rfl (clsV_one _) (by show 3 + 3 ≤ 7; omega)) rfl rfl fun _ hp st => ?_
    simp only [List.set_cons_zero, List.set_cons_succ] at st
    replace st : St B h0 hp (row 5 1 (.slice A1 n1 c1) (out.map byteV) :: rdG q A m c D.2.1 :: tabR t1 (qcodes la) 9 :: tabR t2 (qcodes lb) 9 :: pkG pk q t1 t2 size :: pt p7 92 (clsV C.1) :: pt p9 94 (syV ⟨C.1, D.1, false⟩) :: F) := st
    refine XA rfl rfl rfl (XR_nil (X_seq (X_reg (XV rfl rfl rfl ?_))))
    refine XR_a (op_neq rfl rfl) rfl rfl ?_
    refine XR_nil ?_
    refine X_if rfl (fun h => ?_) (fun h => ?_)
    ·rw [if_pos (by omega)] at hN
     subst hN
     simp only [if_pos] at hM
     rw [if_pos (by omega)] at hM
     subst hM
     refine X_seq (X_reg (XV rfl rfl rfl (XV rfl rfl rfl (XA rfl rfl rfl (XA rfl rfl rfl (XA rfl rfl rfl (XR_nil ?_)))))))
     refine X_ret (.cons (.tmp rfl) (.cons (.tmp rfl) (.cons (.tmp rfl) .nil))) ?_
     exact ⟨_, rfl, (St.reF [_, _, _, _, _, _, _] 7 st [5, 6, 0, 1, 2, 3, 4] (by decide)).tail.tail⟩
    ·rw [if_neg (by omega)] at hN
     obtain ⟨J, hJ⟩ : ∃ J, joinT ⟨C.1, D.1, true⟩ = J := ⟨_, rfl⟩
     rw [hJ] at hN
     refine X_skip (X_reg ?_)
     first | refine XR_a (op_field0 rfl rfl) rfl rfl ?_ | refine XR_a (op_fieldn rfl rfl) rfl rfl ?_
     refine XR_wn (opl_store_pt st 6 rfl rfl rfl rfl rfl (rfl)) rfl rfl fun _ hp st => ?_
     simp only [List.set_cons_zero, List.set_cons_succ] at st
     refine XR_nil (X_seq (X_reg ?_))
     refine XR_a (op_ldA (vs := syV ⟨C.1, D.1, true⟩) (st.cells 6 rfl) rfl rfl rfl rfl) rfl rfl ?_
     refine XR_wa (opl_call (sjoin_spec (r := ⟨C.1, D.1, true⟩) ⟨hC1.2.2.1, hC1.2.2.2⟩ ⟨hC2.2.2.1, hC2.2.2.2⟩ _) rfl (by kernel_rfl)) rfl rfl rfl ?_
     rintro _ hp ⟨rfl, hx5⟩
     replace st := st.ext hx5
     rw [hJ]
     refine XV rfl rfl rfl (XR_a (op_extract rfl rfl) rfl rfl (XR_a (op_extract rfl rfl) rfl rfl ?_))
     refine XR_wa (opl_new rfl) rfl rfl rfl ?_
     rintro _ hp ⟨p10, rfl, hnew⟩
     replace st := st.new hnew
     replace st := St.reF [_, _, _, _, _, _, _, _] 8 st [1, 5, 2, 3, 4, 0, 6, 7] (by decide)
     simp only [List.map_cons, List.map_nil, getR, List.cons_append, List.nil_append] at st
     refine XR_wn (opl_store_whole (us := tokV J.1) st 5 rfl rfl rfl rfl rfl (tokV_one _) rfl) rfl rfl fun _ hp st => ?_
     simp only [List.set_cons_zero, List.set_cons_succ] at st
     refine XA rfl rfl rfl (XR_nil (X_seq (X_seq (X_reg (XV rfl rfl rfl ?_)))))
     first | refine XR_a (op_notd rfl) rfl rfl ?_ | refine XR_a (op_not rfl) rfl rfl ?_
     refine XR_nil ?_
     refine X_cond rfl (fun h => ?_) (fun h => ?_)
     ·rw [if_neg (by simpa using h)] at hN
      subst hN
      simp only [if_pos] at hM
      rw [if_pos (by omega)] at hM
      subst hM
      refine X_seq (X_reg (XV rfl rfl rfl (XA rfl rfl rfl (XA rfl rfl rfl (XA rfl rfl rfl (XR_nil ?_))))))
      refine X_ret (.cons (.tmp rfl) (.cons (.tmp rfl) (.cons (.tmp rfl) .nil))) ?_
      exact ⟨_, rfl, (St.reF [_, _, _, _, _, _, _, _] 8 st [5, 6, 7, 0, 2, 3, 4, 1] (by decide)).tail.tail.tail⟩
     ·rw [if_pos (by simpa using h)] at hN
      subst hN
      rw [if_neg (by simp)] at hM
      obtain ⟨_, _, hjr, hjb0, hjb1⟩ := hnx.2.2 rfl
      simp only at hM hjr hjb0 hjb1
      refine X_skip (X_seq (X_reg (XV rfl rfl rfl (XV rfl rfl rfl ?_))))
      refine XR_a (op_ldA (vs := tokV J.1) (st.cells 5 rfl) rfl rfl rfl rfl) rfl rfl ?_
      refine XR_wa (opl_call (ptoken2 (t := J.1) st.here hs ho hjr ⟨hjb0, hjb1⟩) rfl (by kernel_rfl)) rfl rfl rfl ?_
      rintro _ hp ⟨v9, rfl, st2⟩
      replace st := st.trans st2
      clear st2
      have hfin : M.2.1 = tokO J.1 size out ∧ M.2.2.1 = decide (tokE J.1 size out.length ≠ 0) ∧ M.2.2.2 = tokE J.1 size out.length := by
       rw [← hM]
       unfold tokO tokE
       by_cases h1 : (out.length : Int) < J.1.dist
       ·rw [if_pos h1, if_pos h1]; simp
       ·by_cases h2 : size - out.length < J.1.size
        ·rw [if_neg h1, if_pos h2, if_neg h1, if_pos h2]; simp
        ·rw [if_neg h1, if_neg h2, if_neg h1, if_neg h2]; simp
      obtain ⟨hf1, hf2, hf3⟩ := hfin
      refine XV rfl rfl rfl (XR_a (op_extract rfl rfl) rfl rfl (XR_a (op_extract rfl rfl) rfl rfl (XA rfl rfl rfl (XA rfl rfl rfl (XR_nil (X_seq (X_reg (XV rfl rfl rfl (XV rfl rfl rfl ?_)))))))))
      refine XR_a (op_neq rfl rfl) rfl rfl ?_
      refine XR_as (.bool (decide (tokE J.1 size out.length ≠ 0))) (congrArg Value.bool (decide_eq_decide.2 ⟨fun hh => by omega, fun hh => by omega⟩)) ?_
      refine XV rfl rfl rfl (XA rfl rfl rfl (XA rfl rfl rfl (XA rfl rfl rfl (XR_nil ?_))))
      refine X_ret (.cons (.tmp rfl) (.cons (.tmp rfl) (.cons (.tmp rfl) .nil))) ?_
      rw [hf1, hf2, hf3]
      refine ⟨_, rfl, ?_⟩
      have hat : M.1 = D.2.1 := by
       rw [← hM]
       by_cases h1 : (out.length : Int) < J.1.dist
       ·rw [if_pos h1]
       ·by_cases h2 : size - out.length < J.1.size
        ·rw [if_neg h1, if_pos h2]
        ·rw [if_neg h1, if_neg h2]
      rw [hat]
      exact (St.reF [_, _, _, _, _, _, _, _] 8 st [5, 6, 7, 0, 2, 3, 4, 1] (by decide)).tail.tail.tail
   ·rw [if_neg (by omega)] at hN
    obtain ⟨J, hJ⟩ : ∃ J, joinT ⟨C.1, Kls.nil, false⟩ = J := ⟨_, rfl⟩
    rw [hJ] at hN
    refine X_skip (X_seq (X_reg ?_))
    refine XR_a (op_ldA (vs := syV ⟨C.1, Kls.nil, false⟩) (st.cells 6 rfl) rfl rfl rfl rfl) rfl rfl ?_
    refine XR_wa (opl_call (sjoin_spec (r := ⟨C.1, Kls.nil, false⟩) ⟨hC1.2.2.1, hC1.2.2.2⟩ ⟨Int.le_refl 0, by show (0 : Int) < 4294967296; omega⟩ _) rfl (by kernel_rfl)) rfl rfl rfl ?_
    rintro _ hp ⟨rfl, hx5⟩
    replace st := st.ext hx5
    rw [hJ]
    refine XV rfl rfl rfl (XR_a (op_extract rfl rfl) rfl rfl (XR_a (op_extract rfl rfl) rfl rfl ?_))
    refine XR_wa (opl_new rfl) rfl rfl rfl ?_
    rintro _ hp ⟨p10, rfl, hnew⟩
    replace st := st.new hnew
    replace st := St.reF [_, _, _, _, _, _, _, _] 8 st [1, 5, 2, 3, 4, 0, 6, 7] (by decide)
    simp only [List.map_cons, List.map_nil, getR, List.cons_append, List.nil_append] at st
    refine XR_wn (opl_store_whole (us := tokV J.1) st 5 rfl rfl rfl rfl rfl (tokV_one _) rfl) rfl rfl fun _ hp st => ?_
    simp only [List.set_cons_zero, List.set_cons_succ] at st
    refine XA rfl rfl rfl (XR_nil (X_seq (X_seq (X_reg (XV rfl rfl rfl ?_)))))
    first | refine XR_a (op_notd rfl) rfl rfl ?_ | refine XR_a (op_not rfl) rfl rfl ?_
    refine XR_nil ?_
    refine X_cond rfl (fun h => ?_) (fun h => ?_)
    ·rw [if_neg (by simpa using h)] at hN
     subst hN
     simp only [if_pos] at hM
     rw [if_pos (by omega)] at hM
     subst hM
     refine X_seq (X_reg (XV rfl rfl rfl (XA rfl rfl rfl (XA rfl rfl rfl (XA rfl rfl rfl (XR_nil ?_))))))
     refine X_ret (.cons (.tmp rfl) (.cons (.tmp rfl) (.cons (.tmp rfl) .nil))) ?_
     exact ⟨_, rfl, (St.reF [_, _, _, _, _, _, _, _] 8 st [5, 6, 7, 0, 2, 3, 4, 1] (by decide)).tail.tail.tail⟩
    ·rw [if_pos (by simpa using h)] at hN
     subst hN
     rw [if_neg (by simp)] at hM
     obtain ⟨_, _, hjr, hjb0, hjb1⟩ := hnx.2.2 rfl
     simp only at hM hjr hjb0 hjb1
     refine X_skip (X_seq (X_reg (XV rfl rfl rfl (XV rfl rfl rfl ?_))))
     refine XR_a (op_ldA (vs := tokV J.1) (st.cells 5 rfl) rfl rfl rfl rfl) rfl rfl ?_
     refine XR_wa (opl_call (ptoken2 (t := J.1) st.here hs ho hjr ⟨hjb0, hjb1⟩) rfl (by kernel_rfl)) rfl rfl rfl ?_
     rintro _ hp ⟨v9, rfl, st2⟩
     replace st := st.trans st2
     clear st2
     have hfin : M.2.1 = tokO J.1 size out ∧ M.2.2.1 = decide (tokE J.1 size out.length ≠ 0) ∧ M.2.2.2 = tokE J.1 size out.length := by
      rw [← hM]
      unfold tokO tokE
      by_cases h1 : (out.length : Int) < J.1.dist
      ·rw [if_pos h1, if_pos h1]; simp
      ·by_cases h2 : size - out.length < J.1.size
       ·rw [if_neg h1, if_pos h2, if_neg h1, if_pos h2]; simp
       ·rw [if_neg h1, if_neg h2, if_neg h1, if_neg h2]; simp
     obtain ⟨hf1, hf2, hf3⟩ := hfin
     refine XV rfl rfl rfl (XR_a (op_extract rfl rfl) rfl rfl (XR_a (op_extract rfl rfl) rfl rfl (XA rfl rfl rfl (XA rfl rfl rfl (XR_nil (X_seq (X_reg (XV rfl rfl rfl (XV rfl rfl rfl ?_)))))))))
     refine XR_a (op_neq rfl rfl) rfl rfl ?_
     refine XR_as (.bool (decide (tokE J.1 size out.length ≠ 0))) (congrArg Value.bool (decide_eq_decide.2 ⟨fun hh => by omega, fun hh => by omega⟩)) ?_
     refine XV rfl rfl rfl (XA rfl rfl rfl (XA rfl rfl rfl (XA rfl rfl rfl (XR_nil ?_))))
     refine X_ret (.cons (.tmp rfl) (.cons (.tmp rfl) (.cons (.tmp rfl) .nil))) ?_
     rw [hf1, hf2, hf3]
     refine ⟨_, rfl, ?_⟩
     have hat : M.1 = C.2.1 := by
      rw [← hM]
      by_cases h1 : (out.length : Int) < J.1.dist
      ·rw [if_pos h1]
      ·by_cases h2 : size - out.length < J.1.size
       ·rw [if_neg h1, if_pos h2]
       ·rw [if_neg h1, if_neg h2]
     rw [hat]
     exact (St.reF [_, _, _, _, _, _, _, _] 8 st [5, 6, 7, 0, 2, 3, 4, 1] (by decide)).tail.tail.tail
@[reducible] def pcG (ps pf size : Nat) : Res := pt ps 173 [.pointer (some ⟨pf, 0, none⟩), nV size]
theorem smore_spec {B ps pf size m c a : Nat} {A : Option Addr} {l out : List UInt8} {v : Value} {F : List Res} {h0 : Heap} (st0 : St B h0 h0 (row 5 1 v (out.map byteV) :: fdG pf A m c a false :: pcG ps pf size :: F))
  (hrB : ∀ h', Low B h0 h' → Rd h' A (l.map byteV)) (hl : l.length = m) (hm : m ≤ 1073741824) (hmc : m ≤ c) (ha : a ≤ m) (hs : size ≤ 1048576) (ho : out.length ≤ size) :
  Ret Tryz.prog 202 [.pointer (some ⟨ps, 0, none⟩), v] h0
   fun u h' => ∃ v' bad a', u = retVal [v', .bool (mvS l size a out).2.2.1, nV (mvS l size a out).2.2.2] ∧ St B h0 h' (row 5 1 v' ((mvS l size a out).2.1.map byteV) :: fdG pf A m c a' bad :: pcG ps pf size :: F) ∧ ((mvS l size a out).2.2.1 = false → a' = (mvS l size a out).1 ∧ bad = false) := by
 obtain ⟨M, hM⟩ : ∃ M, mvS l size a out = M := ⟨_, rfl⟩
 rw [hM]
 unfold mvS at hM
 rw [hl] at hM
 refine ret_of_X Tryz.func202 rfl rfl fun w0 hw0 => ?_
 simp only [argE, Nat.zero_add, Nat.reduceAdd]
 obtain ⟨A1, n1, c1, rfl, hl1, hc1, _⟩ := st0.row 0 rfl
 have hl1 : out.length = n1 := by simpa using hl1
 have st := St.reF [_, _, _] 3 st0 [1, 0, 2] (by decide)
 simp only [List.map_cons, List.map_nil, getR, List.cons_append, List.nil_append] at st
 refine X_seq (X_reg (XA rfl rfl rfl (XA rfl rfl rfl (XA rfl rfl rfl (XR_nil (X_seq (X_reg (XV rfl rfl rfl ?_))))))))
 by_cases h2 : a + 2 ≤ m
 ·refine XR_a (op_nilCheck rfl) rfl rfl ?_
  first | refine XR_a (op_field0 rfl rfl) rfl rfl ?_ | refine XR_a (op_fieldn rfl rfl) rfl rfl ?_
  refine XR_a (op_ld (st.cell 2 (i := 0) rfl rfl) rfl rfl rfl) rfl rfl ?_
  refine XR_wa (opl_call (fnum_at (a + 2) (n := leV ((l.drop a).take 2)) st.here (hrB _ st.low) hl (by omega) ha (getF_at (by rw [wid2, hl]; exact h2)) (by rw [wid2])) rfl (by kernel_rfl)) rfl rfl rfl ?_
  rintro _ hp ⟨rfl, st2⟩
  replace st := st.trans st2
  clear st2
  have hn16 : leV ((l.drop a).take 2) < 65536 := Nat.lt_of_lt_of_le (leV_lt _) (Nat.le_trans (Nat.pow_le_pow_right (by omega) (show _ ≤ 2 by rw [List.length_take]; omega)) (by decide))
  rw [if_neg (by omega)] at hM
  generalize leV ((l.drop a).take 2) = n at *
  refine XR_a (op_convI (k' := .i64) rfl rfl (by simp only [inK]; omega)) rfl rfl ?_
  refine XA rfl rfl rfl (XR_nil (X_seq (X_reg (XV rfl rfl rfl ?_))))
  by_cases h3 : a + 2 + n ≤ m
  ·refine XR_a (op_nilCheck rfl) rfl rfl ?_
   first | refine XR_a (op_field0 rfl rfl) rfl rfl ?_ | refine XR_a (op_fieldn rfl rfl) rfl rfl ?_
   refine XR_a (op_ld (st.cell 2 (i := 0) rfl rfl) rfl rfl rfl) rfl rfl ?_
   refine XV rfl rfl rfl ?_
   refine XR_wa (opl_call (fbytes_ok (n := n) st.here (hrB _ st.low) hl (by omega) hmc (by omega)) rfl (by kernel_rfl)) rfl rfl rfl ?_
   rintro w hp st2
   replace st := st.trans st2
   clear st2
   obtain ⟨A7, n7, c7, rfl, hlen7, _, _, hrd7⟩ := st.row 1 rfl
   replace st := St.reF [_, _, _, _] 4 st [0, 2, 3, 1] (by decide)
   simp only [List.map_cons, List.map_nil, getR, List.cons_append, List.nil_append] at st
   rw [if_neg (by omega)] at hM
   refine XA rfl rfl rfl (XR_nil (X_seq (X_block (X_seq (X_reg (XV rfl rfl rfl (XR_a (op_nilCheck rfl) rfl rfl ?_)))))))
   first | refine XR_a (op_field0 rfl rfl) rfl rfl ?_ | refine XR_a (op_fieldn rfl rfl) rfl rfl ?_
   refine XR_a (op_ld (st.cell 2 (i := 0) rfl rfl) rfl rfl rfl) rfl rfl ?_
   refine XR_wa (opl_call (fok_spec (st.cell 0 rfl rfl)) rfl (by kernel_rfl)) rfl rfl rfl ?_
   rintro _ _ ⟨rfl, rfl⟩
   refine XR_a (op_not rfl) rfl rfl ?_
   refine XA rfl rfl rfl (XR_nil (X_else rfl (X_seq (X_reg (XV rfl rfl rfl (XV rfl rfl rfl (XR_a (op_nilCheck rfl) rfl rfl ?_)))))))
   first | refine XR_a (op_field0 rfl rfl) rfl rfl ?_ | refine XR_a (op_fieldn rfl rfl) rfl rfl ?_
   refine XR_a (op_ld (st.cell 2 (i := 1) rfl rfl) rfl rfl rfl) rfl rfl ?_
   refine XV rfl rfl rfl ?_
   refine XR_a (op_len rfl rfl rfl) rfl rfl ?_
   refine XR_a (op_subI rfl rfl (by simp only [inK]; omega)) rfl rfl ?_
   refine XR_a (op_gtr rfl rfl) rfl rfl ?_
   refine XA rfl rfl rfl (XR_nil ?_)
   refine X_if rfl (fun h => ?_) (fun h => ?_)
   ·refine X_seq (X_reg (XV rfl rfl rfl (XA rfl rfl rfl (XA rfl rfl rfl (XA rfl rfl rfl (XR_nil ?_))))))
    refine X_ret (.cons (.tmp rfl) (.cons (.tmp rfl) (.cons (.tmp rfl) .nil))) ?_
    rw [if_pos (by omega)] at hM
    subst hM
    exact ⟨_, _, _, rfl, (St.reF [_, _, _, _] 4 st [3, 1, 0, 2] (by decide)).tail, fun h => by cases h⟩
   ·rw [if_neg (by omega)] at hM
    refine X_seq (X_reg (XV rfl rfl rfl ?_))
    refine XR_a (op_gtr rfl rfl) rfl rfl ?_
    refine XA rfl rfl rfl (XR_nil ?_)
    refine X_if rfl (fun h => ?_) (fun h => ?_)
    ·refine X_seq (X_reg (XV rfl rfl rfl (XV rfl rfl rfl ?_)))
     refine XR_wa (opl_append st 1 rfl (hrd7) (hlen7) (one_bytes _) (by simp; omega) rfl rfl rfl rfl rfl rfl rfl) rfl rfl rfl fun v hp st => ?_
     simp only [List.set_cons_zero, List.set_cons_succ] at st
     rw [← List.map_append] at st
     refine XA rfl rfl rfl (XA rfl rfl rfl (XA rfl rfl rfl (XR_nil ?_)))
     refine X_ret (.cons (.tmp rfl) (.cons (.tmp rfl) (.cons (.tmp rfl) .nil))) ?_
     rw [if_pos (by omega)] at hM
     subst hM
     exact ⟨_, _, _, rfl, (St.reF [_, _, _, _] 4 st [3, 1, 0, 2] (by decide)).tail, fun _ => ⟨rfl, rfl⟩⟩
    ·have hn0 : n = 0 := by omega
     rw [if_neg (by omega)] at hM
     refine X_seq (X_reg (XV rfl rfl rfl (XR_a (op_nilCheck rfl) rfl rfl ?_)))
     first | refine XR_a (op_field0 rfl rfl) rfl rfl ?_ | refine XR_a (op_fieldn rfl rfl) rfl rfl ?_
     refine XR_a (op_ld (st.cell 2 (i := 0) rfl rfl) rfl rfl rfl) rfl rfl ?_
     refine XR_wa (opl_call (fleft_spec (st.cell 0 rfl rfl) (st.cell 0 rfl rfl) (by omega) (by omega)) rfl (by kernel_rfl)) rfl rfl rfl ?_
     rintro _ _ ⟨rfl, rfl⟩
     refine XR_a (op_gtr rfl rfl) rfl rfl ?_
     refine XA rfl rfl rfl (XR_nil ?_)
     refine X_if rfl (fun h => ?_) (fun h => ?_)
     ·refine X_seq (X_reg (XV rfl rfl rfl (XA rfl rfl rfl (XA rfl rfl rfl (XA rfl rfl rfl (XR_nil ?_))))))
      refine X_ret (.cons (.tmp rfl) (.cons (.tmp rfl) (.cons (.tmp rfl) .nil))) ?_
      rw [if_pos (by omega)] at hM
      subst hM
      exact ⟨_, _, _, rfl, (St.reF [_, _, _, _] 4 st [3, 1, 0, 2] (by decide)).tail, fun h => by cases h⟩
     ·rw [if_neg (by omega)] at hM
      refine X_seq (X_reg (XV rfl rfl rfl ?_))
      refine XR_a (op_len rfl rfl rfl) rfl rfl ?_
      refine XV rfl rfl rfl (XR_a (op_nilCheck rfl) rfl rfl ?_)
      first | refine XR_a (op_field0 rfl rfl) rfl rfl ?_ | refine XR_a (op_fieldn rfl rfl) rfl rfl ?_
      refine XR_a (op_ld (st.cell 2 (i := 1) rfl rfl) rfl rfl rfl) rfl rfl ?_
      refine XR_a (op_lss rfl rfl) rfl rfl ?_
      refine XA rfl rfl rfl (XR_nil ?_)
      refine X_if rfl (fun h => ?_) (fun h => ?_)
      ·refine X_seq (X_reg (XV rfl rfl rfl (XA rfl rfl rfl (XA rfl rfl rfl (XA rfl rfl rfl (XR_nil ?_))))))
       refine X_ret (.cons (.tmp rfl) (.cons (.tmp rfl) (.cons (.tmp rfl) .nil))) ?_
       rw [if_pos (by omega)] at hM
       subst hM
       exact ⟨_, _, _, rfl, (St.reF [_, _, _, _] 4 st [3, 1, 0, 2] (by decide)).tail, fun h => by cases h⟩
      ·refine X_skip (X_blk (X_seq (X_reg (XV rfl rfl rfl (XA rfl rfl rfl (XA rfl rfl rfl (XA rfl rfl rfl (XR_nil ?_))))))))
       refine X_ret (.cons (.tmp rfl) (.cons (.tmp rfl) (.cons (.tmp rfl) .nil))) ?_
       rw [if_neg (by omega)] at hM
       subst hM
       exact ⟨_, _, _, rfl, (St.reF [_, _, _, _] 4 st [3, 1, 0, 2] (by decide)).tail, fun h => by cases h⟩
  ·refine XR_a (op_nilCheck rfl) rfl rfl ?_
   first | refine XR_a (op_field0 rfl rfl) rfl rfl ?_ | refine XR_a (op_fieldn rfl rfl) rfl rfl ?_
   refine XR_a (op_ld (st.cell 2 (i := 0) rfl rfl) rfl rfl rfl) rfl rfl ?_
   refine XV rfl rfl rfl ?_
   refine XR_wa (opl_call (fbytes_long (n := n) st.here (by omega) (by omega) (by omega)) rfl (by kernel_rfl)) rfl rfl rfl ?_
   rintro _ hp ⟨rfl, st2⟩
   replace st := st.trans st2
   clear st2
   rw [if_pos (by omega)] at hM
   refine XA rfl rfl rfl (XR_nil (X_seq (X_block (X_seq (X_reg (XV rfl rfl rfl (XR_a (op_nilCheck rfl) rfl rfl ?_)))))))
   first | refine XR_a (op_field0 rfl rfl) rfl rfl ?_ | refine XR_a (op_fieldn rfl rfl) rfl rfl ?_
   refine XR_a (op_ld (st.cell 2 (i := 0) rfl rfl) rfl rfl rfl) rfl rfl ?_
   refine XR_wa (opl_call (fok_spec (st.cell 0 rfl rfl)) rfl (by kernel_rfl)) rfl rfl rfl ?_
   rintro _ _ ⟨rfl, rfl⟩
   refine XR_a (op_not rfl) rfl rfl ?_
   refine XA rfl rfl rfl (XR_nil (X_then rfl (X_seq (X_reg (XV rfl rfl rfl (XA rfl rfl rfl (XA rfl rfl rfl (XA rfl rfl rfl (XR_nil ?_)))))))))
   refine X_ret (.cons (.tmp rfl) (.cons (.tmp rfl) (.cons (.tmp rfl) .nil))) ?_
   subst hM
   exact ⟨_, true, _, rfl, St.reF [_, _, _] 3 st [1, 0, 2] (by decide), fun h => by cases h⟩
 ·refine XR_a (op_nilCheck rfl) rfl rfl ?_
  first | refine XR_a (op_field0 rfl rfl) rfl rfl ?_ | refine XR_a (op_fieldn rfl rfl) rfl rfl ?_
  refine XR_a (op_ld (st.cell 2 (i := 0) rfl rfl) rfl rfl rfl) rfl rfl ?_
  refine XR_wa (opl_call (fnum_fail st.here (hrB _ st.low) hl (by omega) ha (getF_short (by rw [wid2, hl]; omega))) rfl (by kernel_rfl)) rfl rfl rfl ?_
  rintro _ hp ⟨rfl, st2⟩
  replace st := st.trans st2
  clear st2
  rw [if_pos (by omega)] at hM
  refine XR_a (op_convI (k' := .i64) rfl rfl (by simp only [inK]; omega)) rfl rfl ?_
  refine XA rfl rfl rfl (XR_nil (X_seq (X_reg (XV rfl rfl rfl (XR_a (op_nilCheck rfl) rfl rfl ?_)))))
  first | refine XR_a (op_field0 rfl rfl) rfl rfl ?_ | refine XR_a (op_fieldn rfl rfl) rfl rfl ?_
  refine XR_a (op_ld (st.cell 2 (i := 0) rfl rfl) rfl rfl rfl) rfl rfl ?_
  refine XV rfl rfl rfl ?_
  refine XR_wa (opl_call (fbytes_bad (st.cell 0 rfl rfl)) rfl (by kernel_rfl)) rfl rfl rfl ?_
  rintro _ _ ⟨rfl, rfl⟩
  refine XA rfl rfl rfl (XR_nil (X_seq (X_block (X_seq (X_reg (XV rfl rfl rfl (XR_a (op_nilCheck rfl) rfl rfl ?_)))))))
  first | refine XR_a (op_field0 rfl rfl) rfl rfl ?_ | refine XR_a (op_fieldn rfl rfl) rfl rfl ?_
  refine XR_a (op_ld (st.cell 2 (i := 0) rfl rfl) rfl rfl rfl) rfl rfl ?_
  refine XR_wa (opl_call (fok_spec (st.cell 0 rfl rfl)) rfl (by kernel_rfl)) rfl rfl rfl ?_
  rintro _ _ ⟨rfl, rfl⟩
  refine XR_a (op_not rfl) rfl rfl ?_
  refine XA rfl rfl rfl (XR_nil (X_then rfl (X_seq (X_reg (XV rfl rfl rfl (XA rfl rfl rfl (XA rfl rfl rfl (XA rfl rfl rfl (XR_nil ?_)))))))))
  refine X_ret (.cons (.tmp rfl) (.cons (.tmp rfl) (.cons (.tmp rfl) .nil))) ?_
  subst hM
  exact ⟨_, true, _, rfl, St.reF [_, _, _] 3 st [1, 0, 2] (by decide), fun h => by cases h⟩
theorem amore_spec {B ps m c : Nat} {A : Option Addr} {l : List UInt8} {v : Value} {F : List Res} {h0 : Heap} (st0 : St B h0 h0 (row 5 1 v (([] : List UInt8).map byteV) :: pt ps 166 [.slice A m c] :: F))
  (hrB : ∀ h', Low B h0 h' → Rd h' A (l.map byteV)) (hl : l.length = m) (hm : m ≤ 1073741824) :
  Ret Tryz.prog 201 [.pointer (some ⟨ps, 0, none⟩), v] h0
   fun u h' => ∃ v', u = retVal [v', .bool true, nV 0] ∧ St B h0 h' (row 5 1 v' (l.map byteV) :: pt ps 166 [.slice A m c] :: F) := by
 refine ret_of_X Tryz.func201 rfl rfl fun w0 hw0 => ?_
 simp only [argE, Nat.zero_add, Nat.reduceAdd]
 have st := st0
 refine X_seq (X_reg (XA rfl rfl rfl (XA rfl rfl rfl (XA rfl rfl rfl (XR_nil (X_seq (X_reg (XV rfl rfl rfl (XV rfl rfl rfl ?_)))))))))
 refine XR_a (op_nilCheck rfl) rfl rfl ?_
 first | refine XR_a (op_field0 rfl rfl) rfl rfl ?_ | refine XR_a (op_fieldn rfl rfl) rfl rfl ?_
 refine XR_a (op_ld (st.cell 1 (i := 0) rfl rfl) rfl rfl rfl) rfl rfl ?_
 refine XR_wa (opl_append st 0 rfl (hrB _ st.low) (by simp; omega) (one_bytes _) (by simp; omega) rfl rfl rfl rfl rfl rfl rfl) rfl rfl rfl fun v hp st => ?_
 simp only [List.set_cons_zero, List.set_cons_succ] at st
 refine XA rfl rfl rfl (XA rfl rfl rfl (XA rfl rfl rfl (XR_nil ?_)))
 refine X_ret (.cons (.tmp rfl) (.cons (.tmp rfl) (.cons (.tmp rfl) .nil))) ?_
 rw [List.map_nil, List.nil_append] at st
 exact ⟨_, rfl, st⟩
theorem meth_stored (ps : Nat) (w : World) : (method (Tryz.prog.types.size + Made.depth) 164 (.pointer (some ⟨ps, 0, none⟩)) "bindle/reader.more").run Tryz.prog w = .ok (201, .pointer (some ⟨ps, 0, none⟩)) w := by kernel_rfl
theorem meth_pieces (ps : Nat) (w : World) : (method (Tryz.prog.types.size + Made.depth) 171 (.pointer (some ⟨ps, 0, none⟩)) "bindle/reader.more").run Tryz.prog w = .ok (202, .pointer (some ⟨ps, 0, none⟩)) w := by kernel_rfl
theorem meth_packed (ps : Nat) (w : World) : (method (Tryz.prog.types.size + Made.depth) 174 (.pointer (some ⟨ps, 0, none⟩)) "bindle/reader.more").run Tryz.prog w = .ok (204, .pointer (some ⟨ps, 0, none⟩)) w := by kernel_rfl
end Go.Bn
end

section
set_option linter.unusedVariables false
set_option linter.unusedSimpArgs false
namespace Go.Bn
open Go
section
variable {c : Cx} {k : List SItem} {E : Env} {hp : Heap}
end
section
variable {cl : Cls} {P : Program} {E : Env} {hp : Heap} {d : Option Tmp} {ty : TypeId} {pos : String} {af : Array Edge} {g : Option (Nat × Bool)}
def concrete (P : Program) (t : TypeId) : Bool := match P.underlying t with
  | some (.interface _) => false
  | some _ => true
  | none => false
theorem op_iface {x : Operand} {t : TypeId} {v : Value} (hx : ev E x = some v) (hf : concrete P t = true) : Op1 cl P ⟨d, .makeInterface t x, ty, pos, af, g⟩ E hp (.iface t v) := by
 refine Op1.of_pure fun n a ho w => ?_
 simp only [execOp, ho.eval hx]
 unfold concrete at hf
 cases hu : P.underlying t with
 | none => rw [hu] at hf; cases hf
 | some u =>
  rw [hu] at hf
  cases u <;> first
   | (cases hf; done)
   | simp [Instr.makeInterface, run_underlying hu, go_sem]
end
section
variable {P : Program} {E : Env} {hp : Heap} {d : Option Tmp} {ty : TypeId} {pos : String} {af : Array Edge} {g : Option (Nat × Bool)}
end
section
variable {c : Cx} {k : List SItem} {E : Env} {hp : Heap} {ops : Array Oper} {cs : CF}
end
end Go.Bn
end
