/- The contracts of script's reader, that may panic. -/
import Derived.Test.YtpkhilbgkkjebaaPan
import Derived.Test.YtpkhilbgkkjebaaFieldR
import Derived.Test.YtpkhilbgkkjebaaBitsR
import Derived.Test.YtpkhilbgkkjebaaCanon
set_option linter.unusedVariables false
set_option linter.unusedSimpArgs false
set_option maxHeartbeats 4000000
set_option maxRecDepth 20000
namespace Go.Bn
open Go Proofs

/-- What is panicked with where bytes end too soon. -/
@[reducible] def shortV : Value := .iface 50 (.agg #[])
@[reducible] def shortC : List PanicEntry := [{ v := shortV, recovered := false }]

theorem fbytes_short {B p m c a n : Nat} {A : Option Addr} {F : List Res} {h0 : Heap} (st : St B h0 h0 (fdG p A m c a false :: F)) (hm : m ≤ 1099511627776) (ha : a ≤ m) (hn : m < n + a) :
    Ret Try.prog 45 [.pointer (some ⟨p, 0, none⟩), .int .i64 (n : Int)] h0 fun v h' => v = .slice none 0 0 ∧ St B h0 h' (fdG p A m c a true :: F) := by
  refine ret_of_X Try.func45 rfl rfl fun w0 hw0 => ?_
  simp only [argE, Nat.zero_add, Nat.reduceAdd]
  refine X_seq ?_
  refine X_reg ?_
  refine XR_a (op_assign rfl) rfl rfl ?_
  refine XR_nil ?_
  refine X_seq ?_
  refine X_seq ?_
  refine X_reg ?_
  refine XR_a (op_move rfl) rfl rfl ?_
  refine XR_wa (opl_call (fok_spec (st.cell 0 rfl rfl)) rfl (by kernel_rfl)) rfl rfl rfl ?_
  rintro _ _ ⟨rfl, rfl⟩
  refine XR_a (op_not rfl) rfl rfl ?_
  refine XR_nil ?_
  refine X_else rfl ?_
  refine X_skip ?_
  refine X_seq ?_
  refine X_seq ?_
  refine X_draw byKind (by kernel_rfl) (by kernel_rfl) ?_
  refine XR_a (op_move rfl) rfl rfl ?_
  refine XR_a (op_lss rfl rfl) rfl rfl ?_
  refine XR_as (.bool false) (congrArg Value.bool (decide_eq_false (by omega))) ?_
  refine XR_a (op_move rfl) rfl rfl ?_
  refine XR_a (op_move rfl) rfl rfl ?_
  refine XR_a (op_move rfl) rfl rfl ?_
  refine XR_a (op_nilCheck rfl) rfl rfl ?_
  first | refine XR_a (op_field0 rfl rfl) rfl rfl ?_ | refine XR_a (op_fieldn rfl rfl) rfl rfl ?_
  refine XR_a (op_ld (by first | assumption | exact st.cell 0 rfl rfl | exact st.cell 1 rfl rfl | exact st.cell 2 rfl rfl | exact st.cell 3 rfl rfl) rfl rfl rfl) rfl rfl ?_
  refine XR_a (op_len rfl rfl rfl) rfl rfl ?_
  refine XR_a (op_move rfl) rfl rfl ?_
  refine XR_a (op_nilCheck rfl) rfl rfl ?_
  first | refine XR_a (op_field0 rfl rfl) rfl rfl ?_ | refine XR_a (op_fieldn rfl rfl) rfl rfl ?_
  refine XR_a (op_ld (by first | assumption | exact st.cell 0 rfl rfl | exact st.cell 1 rfl rfl | exact st.cell 2 rfl rfl | exact st.cell 3 rfl rfl) rfl rfl rfl) rfl rfl ?_
  first | refine XR_a (op_subN rfl rfl (by omega) (by simp only [inK]; omega)) rfl rfl ?_ | refine XR_a (op_subI rfl rfl (by simp only [inK]; omega)) rfl rfl ?_ | refine XR_a (op_sub rfl rfl) rfl rfl ?_
  refine XR_a (op_gtr rfl rfl) rfl rfl ?_
  refine XR_as (.bool true) (congrArg Value.bool (decide_eq_true (by omega))) ?_
  refine XR_a (op_pick_f rfl rfl) rfl rfl ?_
  refine XR_nil ?_
  refine X_then rfl ?_
  refine X_seq ?_
  refine X_reg ?_
  refine XR_a (op_move rfl) rfl rfl ?_
  refine XR_a (op_nilCheck rfl) rfl rfl ?_
  first | refine XR_a (op_field0 rfl rfl) rfl rfl ?_ | refine XR_a (op_fieldn rfl rfl) rfl rfl ?_
  refine XR_wn (opl_store_pt st 0 rfl rfl rfl rfl rfl (rfl)) rfl rfl fun _ hp st => ?_
  simp only [List.set_cons_zero, List.set_cons_succ] at st
  refine XR_nil ?_
  refine X_seq ?_
  refine X_reg ?_
  refine XR_a (op_assign rfl) rfl rfl ?_
  refine XR_nil ?_
  refine X_ret (.cons (.tmp rfl) .nil) ?_
  exact ⟨rfl, st⟩

theorem snum_spec {B p m c a : Nat} {k : Int} {A : Option Addr} {l : List UInt8} {F : List Res} {h0 : Heap} (st0 : St B h0 h0 (fdG p A m c a false :: F)) (hr : ∀ h', Low B h0 h' → Rd h' A (l.map byteV)) (hl : l.length = m) (hm : m ≤ 1099511627776) (ha : a ≤ m) (hb : ∀ n, getF l a k = some n → n < 4294967296) :
    RetP Try.prog 24 [.agg #[.pointer (some ⟨p, 0, none⟩)], .int .i64 k] h0 (fun v h' => ∃ n, getF l a k = some n ∧ v = nV n ∧ St B h0 h' (fdG p A m c (a + wid k) false :: F))
      (fun ch h' => getF l a k = none ∧ ch = shortC ∧ St B h0 h' F) := by
  refine retP_of_X Try.func24 rfl rfl fun w0 hw0 => ?_
  simp only [argE, Nat.zero_add, Nat.reduceAdd]
  refine X_seq ?_
  refine X_reg ?_
  refine XR_wa (opl_bx (cs := [.pointer (some ⟨p, 0, none⟩)]) rfl rfl) rfl rfl rfl ?_
  rintro _ hp ⟨p2, rfl, hnew⟩
  have st := (st0.new hnew).perm (List.Perm.swap _ _ _)
  refine XR_a (op_assign rfl) rfl rfl ?_
  refine XR_nil ?_
  refine X_seq ?_
  refine X_reg ?_
  first | refine XR_a (op_field0 rfl rfl) rfl rfl ?_ | refine XR_a (op_fieldn rfl rfl) rfl rfl ?_
  refine XR_a (op_ld (st.cell 1 (i := 0) rfl rfl) rfl rfl rfl) rfl rfl ?_
  refine XR_a (op_move rfl) rfl rfl ?_
  refine XR_wa (opl_call (fnum_spec (k := k) st.here (hr _ st.low) hl hm ha) rfl (by kernel_rfl)) rfl rfl rfl ?_
  rintro _ hp2 ⟨rfl, st2⟩
  replace st := st.trans st2
  obtain ⟨g, hg⟩ : ∃ g, getF l a k = g := ⟨_, rfl⟩
  rw [hg] at st hb
  rw [hg]
  have hgb : g.getD 0 < 4294967296 := by
    cases g with
    | none => exact (by decide : (0 : Nat) < 4294967296)
    | some n => exact hb n rfl
  refine XR_a (op_convI (k' := .i64) rfl rfl (by simp only [inK]; omega)) rfl rfl ?_
  refine XR_a (op_assign rfl) rfl rfl ?_
  refine XR_nil ?_
  refine X_seq ?_
  refine X_seq ?_
  refine X_reg ?_
  first | refine XR_a (op_field0 rfl rfl) rfl rfl ?_ | refine XR_a (op_fieldn rfl rfl) rfl rfl ?_
  refine XR_a (op_ld (st.cell 1 (i := 0) rfl rfl) rfl rfl rfl) rfl rfl ?_
  refine XR_wa (opl_call (fok_spec (st.cell 0 rfl rfl)) rfl (by kernel_rfl)) rfl rfl rfl ?_
  rintro _ _ ⟨rfl, rfl⟩
  refine XR_a (op_not rfl) rfl rfl ?_
  refine XR_as (.bool (decide (g = none))) (by cases g <;> rfl) ?_
  refine XR_nil ?_
  refine X_if rfl (fun h => ?_) (fun h => ?_)
  · refine X_reg ?_
    refine XR_a (op_build (ps := []) (cs := #[]) rfl rfl) rfl rfl ?_
    refine XR_a (op_iface rfl (by kernel_rfl)) rfl rfl ?_
    refine XR_panic [] rfl rfl rfl (Sub.nil _) (fun _ => rfl) ?_
    refine XP_plain ?_
    exact ⟨h, rfl, st.tail.tail⟩
  · refine X_skip ?_
    refine X_seq ?_
    refine X_reg ?_
    refine XR_a (op_move rfl) rfl rfl ?_
    refine XR_a (op_assign rfl) rfl rfl ?_
    refine XR_nil ?_
    refine X_retP (.cons (.tmp rfl) .nil) ?_
    obtain ⟨n, rfl⟩ : ∃ n, g = some n := by
      cases g with
      | none => exact absurd rfl h
      | some n => exact ⟨n, rfl⟩
    exact ⟨n, rfl, rfl, (st.perm (List.Perm.swap _ _ _)).tail⟩

theorem sbytes_spec {B p m c a n : Nat} {A : Option Addr} {l : List UInt8} {F : List Res} {h0 : Heap} (st0 : St B h0 h0 (fdG p A m c a false :: F)) (hr : ∀ h', Low B h0 h' → Rd h' A (l.map byteV)) (hl : l.length = m) (hm : m ≤ 1099511627776) (hmc : m ≤ c) (ha : a ≤ m) (hn : n ≤ 1099511627776) :
    RetP Try.prog 38 [.agg #[.pointer (some ⟨p, 0, none⟩)], nV n] h0 (fun v h' => n + a ≤ m ∧ St B h0 h' (fdG p A m c (a + n) false :: row 5 1 v (((l.drop a).take n).map byteV) :: F))
      (fun ch h' => m < n + a ∧ ch = shortC ∧ St B h0 h' F) := by
  refine retP_of_X Try.func38 rfl rfl fun w0 hw0 => ?_
  simp only [argE, Nat.zero_add, Nat.reduceAdd]
  refine X_seq ?_
  refine X_reg ?_
  refine XR_wa (opl_bx (cs := [.pointer (some ⟨p, 0, none⟩)]) rfl rfl) rfl rfl rfl ?_
  rintro _ hp ⟨p2, rfl, hnew⟩
  have st := (st0.new hnew).perm (List.Perm.swap _ _ _)
  refine XR_a (op_assign rfl) rfl rfl ?_
  refine XR_nil ?_
  refine X_seq ?_
  refine X_reg ?_
  first | refine XR_a (op_field0 rfl rfl) rfl rfl ?_ | refine XR_a (op_fieldn rfl rfl) rfl rfl ?_
  refine XR_a (op_ld (st.cell 1 (i := 0) rfl rfl) rfl rfl rfl) rfl rfl ?_
  by_cases hfit : n + a ≤ m
  · refine XR_a (op_move rfl) rfl rfl ?_
    refine XR_wa (opl_call (fbytes_ok (n := n) st.here (hr _ st.low) hl hm hmc hfit) rfl (by kernel_rfl)) rfl rfl rfl ?_
    rintro v hp2 st2
    replace st := st.trans st2
    replace st := St.reF [_, _, _] 3 st [0, 2, 1] (by decide)
    simp only [List.map_cons, List.map_nil, getR, List.cons_append, List.nil_append] at st
    refine XR_a (op_assign rfl) rfl rfl ?_
    refine XR_nil ?_
    refine X_seq ?_
    refine X_seq ?_
    refine X_reg ?_
    first | refine XR_a (op_field0 rfl rfl) rfl rfl ?_ | refine XR_a (op_fieldn rfl rfl) rfl rfl ?_
    refine XR_a (op_ld (st.cell 1 (i := 0) rfl rfl) rfl rfl rfl) rfl rfl ?_
    refine XR_wa (opl_call (fok_spec (st.cell 0 rfl rfl)) rfl (by kernel_rfl)) rfl rfl rfl ?_
    rintro _ _ ⟨rfl, rfl⟩
    refine XR_a (op_not rfl) rfl rfl ?_
    refine XR_nil ?_
    refine X_else rfl ?_
    refine X_skip ?_
    refine X_seq ?_
    refine X_reg ?_
    refine XR_a (op_move rfl) rfl rfl ?_
    refine XR_a (op_assign rfl) rfl rfl ?_
    refine XR_nil ?_
    refine X_retP (.cons (.tmp rfl) .nil) ?_
    exact ⟨hfit, (st.perm (List.Perm.swap _ _ _)).tail⟩
  · refine XR_a (op_move rfl) rfl rfl ?_
    refine XR_wa (opl_call (fbytes_short (n := n) st.here hm ha (by omega)) rfl (by kernel_rfl)) rfl rfl rfl ?_
    rintro _ hp2 ⟨rfl, st2⟩
    replace st := st.trans st2
    refine XR_a (op_assign rfl) rfl rfl ?_
    refine XR_nil ?_
    refine X_seq ?_
    refine X_seq ?_
    refine X_reg ?_
    first | refine XR_a (op_field0 rfl rfl) rfl rfl ?_ | refine XR_a (op_fieldn rfl rfl) rfl rfl ?_
    refine XR_a (op_ld (st.cell 1 (i := 0) rfl rfl) rfl rfl rfl) rfl rfl ?_
    refine XR_wa (opl_call (fok_spec (st.cell 0 rfl rfl)) rfl (by kernel_rfl)) rfl rfl rfl ?_
    rintro _ _ ⟨rfl, rfl⟩
    refine XR_a (op_not rfl) rfl rfl ?_
    refine XR_nil ?_
    refine X_then rfl ?_
    refine X_reg ?_
    refine XR_a (op_build (ps := []) (cs := #[]) rfl rfl) rfl rfl ?_
    refine XR_a (op_iface rfl (by kernel_rfl)) rfl rfl ?_
    refine XR_panic [] rfl rfl rfl (Sub.nil _) (fun _ => rfl) ?_
    refine XP_plain ?_
    exact ⟨by omega, rfl, st.tail.tail⟩

theorem numB_one {bs : List Bool} {a : Nat} (h : a < bs.length) : numB bs a 1 = (bs[a]).toNat := by
  have := numB_succ bs a 0 (by omega)
  rw [numB_zero] at this
  simpa using this

theorem entries_spec {n m c : Nat} {A : Option Addr} {b : List UInt8} {h0 : Heap} (hr : Rd h0 A (b.map byteV)) (hl : b.length = m) (hn : n ≤ 8 * m) (hm : m ≤ 1048576) :
    Ret Try.prog 39 [.slice A m c, nV n] h0 fun v h' => ∃ w, v = retVal [w, .bool (decide (numB (bitsB b) n 8 = 0))] ∧ St h0.size h0 h' [row 4 1 w (((bitsB b).take n).map Value.bool)] := by
  have hbl := bitsB_length b
  refine ret_of_X Try.func39 rfl rfl fun w0 hw0 => ?_
  simp only [argE, Nat.zero_add, Nat.reduceAdd]
  refine X_seq ?_
  refine X_reg ?_
  refine XR_a (op_assign rfl) rfl rfl ?_
  refine XR_a (op_assign rfl) rfl rfl ?_
  refine XR_nil ?_
  refine X_seq ?_
  refine X_reg ?_
  refine XR_a (op_move rfl) rfl rfl ?_
  refine XR_wa (opl_call (rnew_spec) rfl (by kernel_rfl)) rfl rfl rfl ?_
  rintro _ hp ⟨p, rfl, st⟩
  refine XR_a (op_assign rfl) rfl rfl ?_
  refine XR_nil ?_
  refine X_seq ?_
  refine X_reg ?_
  refine XR_a (op_assign rfl) rfl rfl ?_
  refine XR_nil ?_
  refine X_seq ?_
  refine X_seq ?_
  refine X_reg ?_
  refine XR_a (op_move rfl) rfl rfl ?_
  refine XR_a (op_move rfl) rfl rfl ?_
  refine XR_nil ?_
  refine X_block ?_
  replace st := st.nilrow 4 1
  refine X_loop (fun s => n - s.1) (fun s => [(6, .pointer (some ⟨p, 0, none⟩)), (7, s.2), (12, nV n), (13, nV s.1)])
    (fun (s : Nat × Value) hp => s.1 ≤ n ∧ St h0.size h0 hp [row 4 1 s.2 (((bitsB b).take s.1).map Value.bool), rdG p A m c s.1])
    (0, _) (.cons rfl (.cons rfl (.cons rfl (.cons rfl (.nil _))))) ⟨Nat.zero_le _, st⟩ ?_
  clear st
  rintro ⟨i, v⟩ hp ⟨hi, st⟩
  simp only at hi st ⊢
  refine X_seq ?_
  refine X_reg ?_
  refine XR_a (op_lss rfl rfl) rfl rfl ?_
  refine XR_nil ?_
  refine X_seq ?_
  refine X_if rfl (fun h => ?_) (fun h => ?_)
  · have hib : i < (bitsB b).length := by omega
    have htk : (bitsB b).take (i + 1) = (bitsB b).take i ++ [(bitsB b)[i]] := List.take_succ_eq_append_getElem hib
    refine X_skip ?_
    refine X_seq ?_
    refine X_block ?_
    refine X_seq ?_
    refine X_reg ?_
    refine XR_a (op_move rfl) rfl rfl ?_
    refine XR_wa (opl_call (rtake_spec (k := 1) (st.perm (List.Perm.swap _ _ _)).here (hr.ext st.low) hl (by omega) (by omega)) rfl (by kernel_rfl)) rfl rfl rfl ?_
    rintro _ hp2 ⟨rfl, st2⟩
    replace st := ((st.perm (List.Perm.swap _ _ _)).trans st2).perm (List.Perm.swap _ _ _)
    rw [show wd 32 1 = 1 from rfl, if_pos (by omega)] at st
    rw [show wd 32 1 = 1 from rfl, if_pos (by omega), numB_one hib]
    refine XR_a (op_move rfl) rfl rfl ?_
    refine XR_a (op_extract rfl rfl) rfl rfl ?_
    refine XR_a (op_extract rfl rfl) rfl rfl ?_
    refine XR_a (op_assign rfl) rfl rfl ?_
    refine XR_a (op_assign rfl) rfl rfl ?_
    refine XR_nil ?_
    refine X_reg ?_
    refine XR_a (op_move rfl) rfl rfl ?_
    refine XR_a (op_move rfl) rfl rfl ?_
    refine XR_a (op_eql rfl rfl) rfl rfl ?_
    refine XR_as (.bool (bitsB b)[i]) (by cases (bitsB b)[i] <;> rfl) ?_
    refine XR_wa (opl_var1 rfl rfl rfl) rfl rfl rfl ?_
    rintro _ hp ⟨A, rfl, hx, hrd⟩
    have st := st.ext hx
    refine XR_wa (opl_append st 0 rfl (hrd) (rfl) (by intro u hu; simp at hu; subst hu; rfl) (by simp; omega) rfl rfl rfl rfl rfl rfl rfl) rfl rfl rfl fun v hp st => ?_
    simp only [List.set_cons_zero, List.set_cons_succ] at st
    rw [show [Value.bool (bitsB b)[i]] = [(bitsB b)[i]].map Value.bool from rfl, ← List.map_append, ← htk] at st
    refine XR_a (op_assign rfl) rfl rfl ?_
    refine XR_nil ?_
    refine X_blk ?_
    refine X_reg ?_
    first | refine XR_a (op_addN (n := 1) rfl rfl (by simp only [inK]; omega)) rfl rfl ?_ | refine XR_a (op_addI rfl rfl (by simp only [inK]; omega)) rfl rfl ?_ | refine XR_a (op_add rfl rfl) rfl rfl ?_
    refine XR_a (op_move rfl) rfl rfl ?_
    refine XR_nil ?_
    exact X_again (i + 1, _) (.cons rfl (.cons rfl (.cons rfl (.cons rfl (.nil _))))) ⟨by simp only; omega, st⟩ (by simp only; omega)
  · refine X_exit rfl ?_
    refine X_seq ?_
    obtain rfl : i = n := by omega
    refine X_reg ?_
    refine XR_a (op_move rfl) rfl rfl ?_
    refine XR_a (op_move rfl) rfl rfl ?_
    refine XR_wa (opl_call (rpeek_spec (k := 8) (st.cell 1 rfl rfl) (st.cell 1 rfl rfl) (hr.ext st.low) hl (by omega) (by omega)) rfl (by kernel_rfl)) rfl rfl rfl ?_
    rintro _ _ ⟨rfl, rfl⟩
    refine XR_a (op_eql rfl rfl) rfl rfl ?_
    refine XR_as (.bool (decide (numB (bitsB b) i 8 = 0))) (congrArg Value.bool (decide_eq_decide.2 (by rw [show wd 32 8 = 8 from rfl]; omega))) ?_
    refine XR_a (op_assign rfl) rfl rfl ?_
    refine XR_a (op_assign rfl) rfl rfl ?_
    refine XR_nil ?_
    refine X_ret (.cons (.tmp rfl) (.cons (.tmp rfl) .nil)) ?_
    exact ⟨_, rfl, st.keep 1⟩
end Go.Bn
