/- The contracts of a table's short and Take. -/
import Derived.Test.YtnphdfaihpljlaaQuick4
set_option linter.unusedVariables false
set_option linter.unusedSimpArgs false
set_option maxHeartbeats 4000000
set_option maxRecDepth 20000
namespace Go.Bn
open Go Proofs

def beginQ (left x : Nat) (c : QC) : Bool := decide (left < c.2.2) && (c.2.1 % 2 ^ left == x % 2 ^ left)
def shortB (Q : List QC) (left x : Nat) : Bool := Q.any (beginQ left x)
theorem beginQ_iff {left x : Nat} {c : QC} : beginQ left x c = true ↔ left < c.2.2 ∧ c.2.1 % 2 ^ left = x % 2 ^ left := by unfold beginQ; simp
theorem shortB_true {Q : List QC} {left x : Nat} {c : QC} (hc : c ∈ Q) (h : beginQ left x c = true) : shortB Q left x = true := List.any_eq_true.2 ⟨c, hc, h⟩
theorem shortB_false {Q : List QC} {left x : Nat} (h : ∀ c ∈ Q, beginQ left x c = false) : shortB Q left x = false := by
  unfold shortB
  rw [List.any_eq_false]
  intro c hc; rw [h c hc]; simp

theorem qshort_spec {B p w x left : Nat} {Q : List QC} {F : List Res} {hb h0 : Heap} (st : St B hb h0 (tabR p Q w :: F)) (hQ : QOk Q) (hx : x < 32768) (hl : left ≤ 15) (hql : Q.length ≤ 1000) :
    Ret Try.prog 88 [.pointer (some ⟨p, 0, none⟩), .int .i64 (x : Int), .int .i64 (left : Int)] h0 fun v h' => v = .bool (shortB Q left x) ∧ Ext h0 h' := by
  have hpl : 2 ^ left ≤ 32768 := Nat.pow_le_pow_right (n := 2) (by omega) hl
  have hpl0 : 0 < 2 ^ left := Nat.pow_pos (by omega)
  obtain ⟨vr, pm, vc, D, hd, so⟩ := st.tab
  obtain ⟨Ac, nc, cc, rfl, hlenc, _, _, hrd⟩ := so.row 3 rfl
  rw [flat_length _ 3 (fun _ => rfl)] at hlenc
  refine ret_of_X Try.func88 rfl rfl fun w0 hw0 => ?_
  simp only [argE, Nat.zero_add, Nat.reduceAdd]
  refine X_seq ?_
  refine X_reg ?_
  refine XR_a (op_assign rfl) rfl rfl ?_
  refine XR_nil ?_
  refine X_scope rfl (fun _ _ _ hh => hh) ?_
  refine X_seq ?_
  refine X_reg ?_
  refine XR_a (op_assign rfl) rfl rfl ?_
  refine XR_nil ?_
  refine X_seq ?_
  refine X_label ?_
  refine X_seq ?_
  refine X_seq ?_
  refine X_reg ?_
  refine XR_a (op_move rfl) rfl rfl ?_
  refine XR_a (op_nilCheck rfl) rfl rfl ?_
  first | refine XR_a (op_field0 rfl rfl) rfl rfl ?_ | refine XR_a (op_fieldn rfl rfl) rfl rfl ?_
  refine XR_a (op_ld (so.cell 0 (i := 3) rfl rfl) rfl rfl rfl) rfl rfl ?_
  refine XR_a (op_len rfl rfl rfl) rfl rfl ?_
  refine XR_a (op_move rfl) rfl rfl ?_
  refine XR_nil ?_
  refine X_block ?_
  refine X_loop (fun i => nc - i) (fun i => [(0, .pointer (some ⟨p, 0, none⟩)), (1, .int .i64 (x : Nat)), (2, .int .i64 (left : Nat)), (7, .bool false), (13, .slice Ac nc cc), (14, .int .i64 (nc : Nat)), (15, .int .i64 (i : Nat))])
    (fun (i : Nat) hp => Ext h0 hp ∧ i ≤ nc ∧ ∀ c ∈ Q.take i, beginQ left x c = false)
    0 (.cons rfl (.cons rfl (.cons rfl (.cons rfl (.cons rfl (.cons rfl (.cons rfl (.nil _)))))))) ⟨Ext.refl _, by omega, by simp⟩ ?_
  rintro i hp ⟨hxt, hi, hno⟩
  refine X_seq ?_
  refine X_reg ?_
  refine XR_a (op_lss rfl rfl) rfl rfl ?_
  refine XR_nil ?_
  refine X_seq ?_
  refine X_if rfl (fun h => ?_) (fun h => ?_)
  · have hilt : i < Q.length := by omega
    obtain ⟨gc, oc, rfl, hcc⟩ := Rd.flat cC 3 (hrd.ext hxt) (fun _ => rfl) (by omega) (by omega)
    have hQc := hQ.len Q[i] (List.getElem_mem hilt)
    have hQb := hQ.bits Q[i] (List.getElem_mem hilt)
    have htk := List.take_succ_eq_append_getElem hilt
    have hcell := hcc i hilt
    have hmem := List.getElem_mem hilt
    obtain ⟨c, hce⟩ : ∃ c, Q[i] = c := ⟨_, rfl⟩
    rw [hce] at hQc hQb htk hcell hmem
    have hb15 : c.2.1 < 32768 := Nat.lt_of_lt_of_le hQb (Nat.pow_le_pow_right (n := 2) (by omega) hQc.2)
    have hnext : beginQ left x c = false → ∀ d ∈ Q.take (i + 1), beginQ left x d = false := by
      intro h d hd
      rw [htk] at hd
      rcases List.mem_append.1 hd with h1 | h1
      · exact hno d h1
      · rw [show d = c by simpa using h1]; exact h
    refine X_skip ?_
    refine X_seq ?_
    refine X_block ?_
    refine X_seq ?_
    refine X_reg ?_
    refine XR_a (op_index (i := i) rfl rfl rfl (by omega)) rfl rfl ?_
    refine XR_a (op_ldA (vs := cC c) (fun j u hu => hcell j u hu) rfl rfl rfl rfl) rfl rfl ?_
    refine XR_wa (opl_new rfl) rfl rfl rfl ?_
    rintro _ hp ⟨px, rfl, hnew⟩
    have sn := ((St.start h0).ext hxt).new hnew
    refine XR_wn (opl_store_whole sn 0 rfl rfl rfl rfl rfl (one_cC c) rfl) rfl rfl fun _ hp sn => ?_
    simp only [List.set_cons_zero, List.set_cons_succ] at sn
    refine XR_nil ?_
    refine X_seq ?_
    refine X_draw byKind (by kernel_rfl) (by kernel_rfl) ?_
    first | refine XR_a (op_field0 rfl rfl) rfl rfl ?_ | refine XR_a (op_fieldn rfl rfl) rfl rfl ?_
    refine XR_a (op_ld (sn.cell 0 (i := 2) rfl rfl) rfl rfl rfl) rfl rfl ?_
    refine XR_a (op_move rfl) rfl rfl ?_
    refine XR_a (op_gtr rfl rfl) rfl rfl ?_
    refine XR_a (op_move rfl) rfl rfl ?_
    refine XR_if 23 rfl (fun h => ?_) (fun h => ?_)
    · first | refine XR_a (op_field0 rfl rfl) rfl rfl ?_ | refine XR_a (op_fieldn rfl rfl) rfl rfl ?_
      refine XR_a (op_ld (sn.cell 0 (i := 1) rfl rfl) rfl rfl rfl) rfl rfl ?_
      refine XR_a (op_move rfl) rfl rfl ?_
      refine XR_a (op_shlC (m := 1) left rfl rfl (by simp only [IntKind.bits]; omega) (by simp only [inK]; omega)) rfl rfl ?_
      refine XR_as (.int .i64 (2 ^ left : Nat)) (by rw [Nat.one_mul]) ?_
      refine XR_a (op_subN (m := 2 ^ left) (n := 1) rfl rfl (by omega) (by simp only [inK]; omega)) rfl rfl ?_
      refine XR_a (op_andS (m := c.2.1) (n := 2 ^ left - 1) rfl rfl (by simp only [inK]; omega) (by simp only [inK]; omega)) rfl rfl ?_
      refine XR_as (.int .i64 (c.2.1 % 2 ^ left : Nat)) (by rw [and_low]) ?_
      refine XR_a (op_move rfl) rfl rfl ?_
      refine XR_a (op_move rfl) rfl rfl ?_
      refine XR_a (op_shlC (m := 1) left rfl rfl (by simp only [IntKind.bits]; omega) (by simp only [inK]; omega)) rfl rfl ?_
      refine XR_as (.int .i64 (2 ^ left : Nat)) (by rw [Nat.one_mul]) ?_
      refine XR_a (op_subN (m := 2 ^ left) (n := 1) rfl rfl (by omega) (by simp only [inK]; omega)) rfl rfl ?_
      refine XR_a (op_andS (m := x) (n := 2 ^ left - 1) rfl rfl (by simp only [inK]; omega) (by simp only [inK]; omega)) rfl rfl ?_
      refine XR_as (.int .i64 (x % 2 ^ left : Nat)) (by rw [and_low]) ?_
      refine XR_a (op_eql rfl rfl) rfl rfl ?_
      refine XR_a (op_pick_t rfl rfl) rfl rfl ?_
      refine XR_nil ?_
      refine X_if rfl (fun h => ?_) (fun h => ?_)
      · refine X_seq ?_
        refine X_reg ?_
        refine XR_a (op_assign rfl) rfl rfl ?_
        refine XR_nil ?_
        refine X_exit rfl ?_
        refine X_seq ?_
        refine X_reg ?_
        refine XR_a (op_move rfl) rfl rfl ?_
        refine XR_a (op_assign rfl) rfl rfl ?_
        refine XR_nil ?_
        refine X_ret (.cons (.tmp rfl) .nil) ?_
        exact ⟨by rw [shortB_true hmem (beginQ_iff.2 ⟨by omega, by omega⟩)]; rfl, sn.low⟩
      · refine X_skip ?_
        refine X_blk ?_
        refine X_reg ?_
        first | refine XR_a (op_addN (n := 1) rfl rfl (by simp only [inK]; omega)) rfl rfl ?_ | refine XR_a (op_addI rfl rfl (by simp only [inK]; omega)) rfl rfl ?_ | refine XR_a (op_add rfl rfl) rfl rfl ?_
        refine XR_a (op_move rfl) rfl rfl ?_
        refine XR_nil ?_
        refine X_again (i + 1) (.cons rfl (.cons rfl (.cons rfl (.cons rfl (.cons rfl (.cons rfl (.cons rfl (.nil _)))))))) ⟨sn.low, by omega, hnext ?_⟩ (by omega)
        cases hh : beginQ left x c with
        | false => rfl
        | true => have := (beginQ_iff.1 hh).2; omega
    · refine XR_no rfl rfl ?_
      refine XR_no rfl rfl ?_
      refine XR_no rfl rfl ?_
      refine XR_no rfl rfl ?_
      refine XR_no rfl rfl ?_
      refine XR_no rfl rfl ?_
      refine XR_no rfl rfl ?_
      refine XR_no rfl rfl ?_
      refine XR_no rfl rfl ?_
      refine XR_no rfl rfl ?_
      refine XR_no rfl rfl ?_
      refine XR_no rfl rfl ?_
      refine XR_a (op_pick_f rfl rfl) rfl rfl ?_
      refine XR_nil ?_
      refine X_else rfl ?_
      refine X_skip ?_
      refine X_blk ?_
      refine X_reg ?_
      first | refine XR_a (op_addN (n := 1) rfl rfl (by simp only [inK]; omega)) rfl rfl ?_ | refine XR_a (op_addI rfl rfl (by simp only [inK]; omega)) rfl rfl ?_ | refine XR_a (op_add rfl rfl) rfl rfl ?_
      refine XR_a (op_move rfl) rfl rfl ?_
      refine XR_nil ?_
      refine X_again (i + 1) (.cons rfl (.cons rfl (.cons rfl (.cons rfl (.cons rfl (.cons rfl (.cons rfl (.nil _)))))))) ⟨sn.low, by omega, hnext ?_⟩ (by omega)
      cases hh : beginQ left x c with
      | false => rfl
      | true => have := (beginQ_iff.1 hh).1; omega
  · refine X_exit rfl ?_
    refine X_seq ?_
    refine X_reg ?_
    refine XR_a (op_move rfl) rfl rfl ?_
    refine XR_a (op_assign rfl) rfl rfl ?_
    refine XR_nil ?_
    refine X_ret (.cons (.tmp rfl) .nil) ?_
    rw [List.take_of_length_le (by omega)] at hno
    exact ⟨by rw [shortB_false hno]; rfl, hxt⟩

theorem eqL_rC (r r' : QR) : eqL (rC r) (rC r') = decide (r = r') := by
  obtain ⟨a, b, c⟩ := r
  obtain ⟨a', b', c'⟩ := r'
  simp only [eqL, eqv, Bool.and_true, Prod.mk.injEq]
  rw [Bool.eq_iff_iff]
  simp [Int.natCast_inj]
/-- What Take tells. -/
def takeQ (Q : List QC) (w : Nat) (bs : List Bool) : Nat × Nat × Nat :=
  if findQ Q w (valB (bs.take 15)) ≠ zeroQ ∧ (findQ Q w (valB (bs.take 15))).2.1 ≤ bs.length then ((findQ Q w (valB (bs.take 15))).1, (findQ Q w (valB (bs.take 15))).2.1, 0)
  else if bs.length < 15 ∧ shortB Q bs.length (valB (bs.take 15)) = true then (0, 0, 2) else (0, 0, 13)
theorem findQ_len {Q : List QC} (h : QOk Q) (w x : Nat) : (findQ Q w x).2.1 ≤ 15 := by
  rw [findQ_eq h]
  cases hq : Q.find? (hitQ x) with
  | some c => exact (h.len c (List.mem_of_find?_eq_some hq)).2
  | none => exact Nat.zero_le _
theorem takeQ_le (Q : List QC) (w : Nat) (bs : List Bool) : (takeQ Q w bs).2.1 ≤ bs.length := by
  unfold takeQ
  split
  · rename_i h; exact h.2
  · split <;> exact Nat.zero_le _

theorem qtake_spec {B p q w m c a : Nat} {A : Option Addr} {l : List UInt8} {Q : List QC} {F : List Res} {h0 : Heap} (st : St B h0 h0 (rdG q A m c a :: tabR p Q w :: F)) (hQ : QOk Q) (hw : 1 ≤ w ∧ w ≤ 15) (hql : Q.length ≤ 1000)
    (hr : Rd h0 A (l.map byteV)) (hl : l.length = m) (hm : m ≤ 1099511627776) (ha : a ≤ 8 * m) :
    Ret Try.prog 52 [.pointer (some ⟨p, 0, none⟩), .pointer (some ⟨q, 0, none⟩)] h0
      fun v h' => v = retVal [.int .i64 ((takeQ Q w ((bitsB l).drop a)).1 : Nat), .int .i64 ((takeQ Q w ((bitsB l).drop a)).2.2 : Nat)] ∧ St B h0 h' (rdG q A m c (a + (takeQ Q w ((bitsB l).drop a)).2.1) :: tabR p Q w :: F) := by
  have hbl : ((bitsB l).drop a).length = 8 * m - a := by rw [List.length_drop, bitsB_length, hl]
  have hnum : numB (bitsB l) a 15 = valB (((bitsB l).drop a).take 15) := rfl
  obtain ⟨bs, hbs⟩ : ∃ bs, (bitsB l).drop a = bs := ⟨_, rfl⟩
  rw [hbs] at hbl hnum ⊢
  have hxlt : valB (bs.take 15) < 32768 := by
    have := valB_lt (bs.take 15)
    have h2 : 2 ^ (bs.take 15).length ≤ 2 ^ 15 := Nat.pow_le_pow_right (by omega) (by rw [List.length_take]; omega)
    omega
  have htq : takeQ Q w bs = if findQ Q w (valB (bs.take 15)) ≠ zeroQ ∧ (findQ Q w (valB (bs.take 15))).2.1 ≤ bs.length then ((findQ Q w (valB (bs.take 15))).1, (findQ Q w (valB (bs.take 15))).2.1, 0)
    else if bs.length < 15 ∧ shortB Q bs.length (valB (bs.take 15)) = true then (0, 0, 2) else (0, 0, 13) := rfl
  have hfl := findQ_len hQ w (valB (bs.take 15))
  obtain ⟨T, hT⟩ : ∃ T, takeQ Q w bs = T := ⟨_, rfl⟩
  rw [hT] at htq ⊢
  obtain ⟨x, hx⟩ : ∃ x, valB (bs.take 15) = x := ⟨_, rfl⟩
  rw [hx] at hnum hxlt htq hfl
  rw [hbl] at htq
  refine ret_of_X Try.func52 rfl rfl fun w0 hw0 => ?_
  simp only [argE, Nat.zero_add, Nat.reduceAdd]
  refine X_seq ?_
  refine X_reg ?_
  refine XR_a (op_assign rfl) rfl rfl ?_
  refine XR_a (op_assign rfl) rfl rfl ?_
  refine XR_nil ?_
  refine X_seq ?_
  refine X_seq ?_
  refine X_reg ?_
  refine XR_a (op_move rfl) rfl rfl ?_
  refine XR_a (op_ptr_nil rfl rfl rfl) rfl rfl ?_
  refine XR_a (op_move rfl) rfl rfl ?_
  refine XR_a (op_move rfl) rfl rfl ?_
  refine XR_a (op_ptr_nil rfl rfl rfl) rfl rfl ?_
  refine XR_a (op_pick_f rfl rfl) rfl rfl ?_
  refine XR_nil ?_
  refine X_else rfl ?_
  refine X_skip ?_
  refine X_seq ?_
  refine X_reg ?_
  refine XR_a (op_move rfl) rfl rfl ?_
  refine XR_wa (opl_call (rpeek_spec (k := 15) (st.cell 0 rfl rfl) (st.cell 0 rfl rfl) hr hl hm ha) rfl (by kernel_rfl)) rfl rfl rfl ?_
  rintro _ _ ⟨rfl, rfl⟩
  rw [show wd 32 15 = 15 from rfl, hnum]
  refine XR_a (op_convI (k' := .i64) rfl rfl (by simp only [inK]; omega)) rfl rfl ?_
  refine XR_a (op_move rfl) rfl rfl ?_
  refine XR_wa (opl_call (rleft_spec (st.cell 0 rfl rfl) (st.cell 0 rfl rfl) hm ha) rfl (by kernel_rfl)) rfl rfl rfl ?_
  rintro _ _ ⟨rfl, rfl⟩
  refine XR_a (op_assign rfl) rfl rfl ?_
  refine XR_a (op_assign rfl) rfl rfl ?_
  refine XR_nil ?_
  refine X_seq ?_
  refine X_reg ?_
  refine XR_a (op_move rfl) rfl rfl ?_
  refine XR_a (op_move rfl) rfl rfl ?_
  refine XR_wa (opl_call (qfind_spec (st.perm rot) hQ hw hxlt) rfl (by kernel_rfl)) rfl rfl rfl ?_
  rintro _ hp ⟨rfl, hxt⟩
  replace st := st.ext hxt
  obtain ⟨r, hre⟩ : ∃ r, findQ Q w x = r := ⟨_, rfl⟩
  rw [hre] at htq hfl ⊢
  refine XR_wa (opl_new rfl) rfl rfl rfl ?_
  rintro _ hp ⟨px, rfl, hnew⟩
  replace st := st.new hnew
  refine XR_wn (opl_store_whole (us := rC r) st 0 rfl rfl rfl rfl rfl (one_rC r) rfl) rfl rfl fun _ hp st => ?_
  simp only [List.set_cons_zero, List.set_cons_succ] at st
  refine XR_nil ?_
  refine X_seq ?_
  refine X_block ?_
  refine X_seq ?_
  refine X_reg ?_
  refine XR_a (op_ldA (vs := rC r) (st.cells 0 rfl) rfl rfl rfl rfl) rfl rfl ?_
  refine XR_a (op_build (ps := []) (cs := (rC zeroQ).toArray) rfl rfl) rfl rfl ?_
  refine XR_a (op_neqH rfl rfl (neq_flat (ks := [.i .i64, .i .i64, .b]) (by kernel_rfl) (by kernel_rfl) rfl rfl) (by kernel_rfl)) rfl rfl ?_
  refine XR_as (.bool (decide (r ≠ zeroQ))) (congrArg Value.bool (by rw [eqL_rC]; simp)) ?_
  refine XR_a (op_move rfl) rfl rfl ?_
  refine XR_if 27 rfl (fun h => ?_) (fun h => ?_)
  · first | refine XR_a (op_field0 rfl rfl) rfl rfl ?_ | refine XR_a (op_fieldn rfl rfl) rfl rfl ?_
    refine XR_a (op_ld (st.cell 0 (i := 1) rfl rfl) rfl rfl rfl) rfl rfl ?_
    refine XR_a (op_move rfl) rfl rfl ?_
    refine XR_a (op_leq rfl rfl) rfl rfl ?_
    refine XR_a (op_pick_t rfl rfl) rfl rfl ?_
    refine XR_a (op_assign rfl) rfl rfl ?_
    refine XR_nil ?_
    refine X_if rfl (fun h => ?_) (fun h => ?_)
    · rw [if_pos ⟨by assumption, by omega⟩] at htq
      subst htq
      have hwd : wd 32 (r.2.1 : Int) = r.2.1 := by unfold wd; omega
      refine X_seq ?_
      refine X_reg ?_
      refine XR_a (op_move rfl) rfl rfl ?_
      first | refine XR_a (op_field0 rfl rfl) rfl rfl ?_ | refine XR_a (op_fieldn rfl rfl) rfl rfl ?_
      refine XR_a (op_ld (st.cell 0 (i := 1) rfl rfl) rfl rfl rfl) rfl rfl ?_
      refine XR_wa (opl_call (rskip_spec (k := (r.2.1 : Int)) (st.perm rot).here hm ha) rfl (by kernel_rfl)) rfl rfl rfl ?_
      rintro _ hp ⟨_, st2⟩
      rw [hwd, if_pos (by omega)] at st2
      replace st := ((st.perm rot).trans st2).perm rot
      refine XR_nil ?_
      refine X_seq ?_
      refine X_reg ?_
      first | refine XR_a (op_field0 rfl rfl) rfl rfl ?_ | refine XR_a (op_fieldn rfl rfl) rfl rfl ?_
      refine XR_a (op_ld (st.cell 0 (i := 0) rfl rfl) rfl rfl rfl) rfl rfl ?_
      refine XR_a (op_assign rfl) rfl rfl ?_
      refine XR_a (op_assign rfl) rfl rfl ?_
      refine XR_nil ?_
      refine X_ret (.cons (.tmp rfl) (.cons (.tmp rfl) .nil)) ?_
      exact ⟨rfl, st.tail⟩
    · refine X_seq ?_
      have hnn : ¬ (r ≠ zeroQ ∧ r.2.1 ≤ 8 * m - a) := fun hh => by
        first
        | exact absurd hh.1 (by assumption)
        | (have := hh.2; omega)
      rw [if_neg hnn] at htq
      refine X_reg ?_
      refine XR_a (op_move rfl) rfl rfl ?_
      refine XR_a (op_lss rfl rfl) rfl rfl ?_
      refine XR_a (op_move rfl) rfl rfl ?_
      refine XR_if 42 rfl (fun h => ?_) (fun h => ?_)
      · refine XR_a (op_move rfl) rfl rfl ?_
        refine XR_a (op_move rfl) rfl rfl ?_
        refine XR_a (op_move rfl) rfl rfl ?_
        refine XR_wa (opl_call (qshort_spec st.tail.tail hQ hxlt (by omega) hql) rfl (by kernel_rfl)) rfl rfl rfl ?_
        rintro _ hp ⟨rfl, hxt2⟩
        replace st := st.ext hxt2
        refine XR_a (op_pick_t rfl rfl) rfl rfl ?_
        refine XR_a (op_assign rfl) rfl rfl ?_
        refine XR_nil ?_
        refine X_cond rfl (fun h => ?_) (fun h => ?_)
        · refine X_seq ?_
          refine X_reg ?_
          refine XR_a (op_assign rfl) rfl rfl ?_
          refine XR_a (op_assign rfl) rfl rfl ?_
          refine XR_nil ?_
          refine X_ret (.cons (.tmp rfl) (.cons (.tmp rfl) .nil)) ?_
          rename_i hs
          rw [if_pos ⟨by omega, by assumption⟩] at htq
          subst htq
          exact ⟨rfl, st.tail⟩
        · refine X_skip ?_
          refine X_blk ?_
          refine X_seq ?_
          refine X_reg ?_
          refine XR_a (op_assign rfl) rfl rfl ?_
          refine XR_a (op_assign rfl) rfl rfl ?_
          refine XR_nil ?_
          refine X_ret (.cons (.tmp rfl) (.cons (.tmp rfl) .nil)) ?_
          rw [if_neg (fun hh => by rw [h] at hh; exact absurd hh.2 (by simp))] at htq
          subst htq
          exact ⟨rfl, st.tail⟩
      · refine XR_no rfl rfl ?_
        refine XR_no rfl rfl ?_
        refine XR_no rfl rfl ?_
        refine XR_no rfl rfl ?_
        refine XR_a (op_pick_f rfl rfl) rfl rfl ?_
        refine XR_a (op_assign rfl) rfl rfl ?_
        refine XR_nil ?_
        refine X_else rfl ?_
        refine X_skip ?_
        refine X_blk ?_
        refine X_seq ?_
        refine X_reg ?_
        refine XR_a (op_assign rfl) rfl rfl ?_
        refine XR_a (op_assign rfl) rfl rfl ?_
        refine XR_nil ?_
        refine X_ret (.cons (.tmp rfl) (.cons (.tmp rfl) .nil)) ?_
        rw [if_neg (fun hh => by have := hh.1; omega)] at htq
        subst htq
        exact ⟨rfl, st.tail⟩
  · refine XR_no rfl rfl ?_
    refine XR_no rfl rfl ?_
    refine XR_no rfl rfl ?_
    refine XR_no rfl rfl ?_
    refine XR_a (op_pick_f rfl rfl) rfl rfl ?_
    refine XR_a (op_assign rfl) rfl rfl ?_
    refine XR_nil ?_
    refine X_else rfl ?_
    refine X_seq ?_
    have hnn : ¬ (r ≠ zeroQ ∧ r.2.1 ≤ 8 * m - a) := fun hh => by
      first
      | exact absurd hh.1 (by assumption)
      | (have := hh.2; omega)
    rw [if_neg hnn] at htq
    refine X_reg ?_
    refine XR_a (op_move rfl) rfl rfl ?_
    refine XR_a (op_lss rfl rfl) rfl rfl ?_
    refine XR_a (op_move rfl) rfl rfl ?_
    refine XR_if 42 rfl (fun h => ?_) (fun h => ?_)
    · refine XR_a (op_move rfl) rfl rfl ?_
      refine XR_a (op_move rfl) rfl rfl ?_
      refine XR_a (op_move rfl) rfl rfl ?_
      refine XR_wa (opl_call (qshort_spec st.tail.tail hQ hxlt (by omega) hql) rfl (by kernel_rfl)) rfl rfl rfl ?_
      rintro _ hp ⟨rfl, hxt2⟩
      replace st := st.ext hxt2
      refine XR_a (op_pick_t rfl rfl) rfl rfl ?_
      refine XR_a (op_assign rfl) rfl rfl ?_
      refine XR_nil ?_
      refine X_cond rfl (fun h => ?_) (fun h => ?_)
      · refine X_seq ?_
        refine X_reg ?_
        refine XR_a (op_assign rfl) rfl rfl ?_
        refine XR_a (op_assign rfl) rfl rfl ?_
        refine XR_nil ?_
        refine X_ret (.cons (.tmp rfl) (.cons (.tmp rfl) .nil)) ?_
        rename_i hs
        rw [if_pos ⟨by omega, by assumption⟩] at htq
        subst htq
        exact ⟨rfl, st.tail⟩
      · refine X_skip ?_
        refine X_blk ?_
        refine X_seq ?_
        refine X_reg ?_
        refine XR_a (op_assign rfl) rfl rfl ?_
        refine XR_a (op_assign rfl) rfl rfl ?_
        refine XR_nil ?_
        refine X_ret (.cons (.tmp rfl) (.cons (.tmp rfl) .nil)) ?_
        rw [if_neg (fun hh => by rw [h] at hh; exact absurd hh.2 (by simp))] at htq
        subst htq
        exact ⟨rfl, st.tail⟩
    · refine XR_no rfl rfl ?_
      refine XR_no rfl rfl ?_
      refine XR_no rfl rfl ?_
      refine XR_no rfl rfl ?_
      refine XR_a (op_pick_f rfl rfl) rfl rfl ?_
      refine XR_a (op_assign rfl) rfl rfl ?_
      refine XR_nil ?_
      refine X_else rfl ?_
      refine X_skip ?_
      refine X_blk ?_
      refine X_seq ?_
      refine X_reg ?_
      refine XR_a (op_assign rfl) rfl rfl ?_
      refine XR_a (op_assign rfl) rfl rfl ?_
      refine XR_nil ?_
      refine X_ret (.cons (.tmp rfl) (.cons (.tmp rfl) .nil)) ?_
      rw [if_neg (fun hh => by have := hh.1; omega)] at htq
      subst htq
      exact ⟨rfl, st.tail⟩
end Go.Bn
