/- Packed texts of a claim: what its theorem uses, joined. -/
import Derived.Test.YtedkglaoablgaaaProg
import Derived.Test.YtedkglaoablgaaaPkReaderWholes12
section
set_option linter.unusedVariables false
set_option linter.unusedSimpArgs false
set_option maxHeartbeats 4000000
set_option maxRecDepth 20000
namespace Go.Bn
open Go Proofs
theorem St.big {B : Nat} {h0 hp : Heap} {f : Nat × Value → Res} {x : Nat × Value} : ∀ {D : List (Nat × Value)} {F : List Res}, x ∈ D → St B h0 hp (bigR f D :: F) → ∃ F', St B h0 hp (f x :: F')
  | y :: D, F, h, st => by
    have s1 := St.star.1 st
    rcases List.mem_cons.1 h with rfl | h1
    · exact ⟨_, s1⟩
    · exact St.big h1 (s1.perm rot)
theorem deepTo_mem {Q : List QC} {w m : Nat} (hm : m < 2 ^ w) (h : (rowQ Q w m).2.2 = true) : m ∈ deepTo Q w (2 ^ w) := List.mem_filter.2 ⟨List.mem_range.2 hm, h⟩
theorem deepTo_nodup (Q : List QC) (w n : Nat) : (deepTo Q w n).Nodup := List.Nodup.sublist List.filter_sublist List.nodup_range
theorem keysOf_one {D : List (Nat × Value)} {m : Nat} {vm : Value} (hn : (D.map (·.1)).Nodup) (hm : (m, vm) ∈ D) : ((m : Int), vm) ∈ keysOf D ∧ ∀ q ∈ keysOf D, q.1 = (m : Int) → q.2 = vm := by
  refine ⟨List.mem_map.2 ⟨(m, vm), List.mem_reverse.2 hm, rfl⟩, fun q hq e => ?_⟩
  obtain ⟨x, hx, rfl⟩ := List.mem_map.1 hq
  replace hx : x ∈ D := List.mem_reverse.1 hx
  have e : x.1 = m := by simp only at e; omega
  clear hq
  induction D with
  | nil => cases hx
  | cons y D ih =>
    rw [List.map_cons, List.nodup_cons] at hn
    rcases List.mem_cons.1 hm with h1 | h1 <;> rcases List.mem_cons.1 hx with h2 | h2
    · rw [h2, ← h1]
    · exact absurd (List.mem_map.2 ⟨x, h2, by rw [e, ← h1]⟩) hn.1
    · exact absurd (List.mem_map.2 ⟨(m, vm), h1, by rw [← h2]; exact e.symm⟩) hn.1
    · exact ih hn.2 h1 h2
theorem qfind_spec {B p w x : Nat} {Q : List QC} {F : List Res} {hb h0 : Heap} (st : St B hb h0 (tabR p Q w :: F)) (hQ : QOk Q) (hw : 1 ≤ w ∧ w ≤ 15) (hx : x < 32768) :
    Ret Try.prog 216 [.pointer (some ⟨p, 0, none⟩), .int .i64 (x : Int)] h0 fun v h' => v = .agg (rC (findQ Q w x)).toArray ∧ Ext h0 h' := by
  have hpw : 2 ^ w ≤ 32768 := Nat.pow_le_pow_right (n := 2) (by omega) hw.2
  have hpw0 : 0 < 2 ^ w := Nat.pow_pos (by omega)
  obtain ⟨m, hme⟩ : ∃ m, x % 2 ^ w = m := ⟨_, rfl⟩
  have hm : m < 2 ^ w := by rw [← hme]; exact Nat.mod_lt _ hpw0
  have hrl := rowQ_len hQ w m
  refine ret_of_X Try.func216 rfl rfl fun w0 hw0 => ?_
  simp only [argE, Nat.zero_add, Nat.reduceAdd]
  have sn := St.start h0
  refine X_seq ?_
  refine X_reg ?_
  refine XR_wa (opl_new rfl) rfl rfl rfl ?_
  rintro _ hp ⟨px, rfl, hnew⟩
  replace sn := sn.new hnew
  obtain ⟨vr, pm, vc, D, hd, so⟩ := (st.ext hnew.1).tab
  obtain ⟨gr, nr, cr, rfl, hlenr, _, _, hrd⟩ := so.row0 1 rfl (by rw [cellsR_len]; omega)
  rw [cellsR_len] at hlenr
  obtain rfl : nr = 2 ^ w := by omega
  refine XR_nil ?_
  refine X_seq ?_
  refine X_reg ?_
  refine XR_a (op_move rfl) rfl rfl ?_
  refine XR_a (op_move rfl) rfl rfl ?_
  refine XR_a (op_nilCheck rfl) rfl rfl ?_
  first | refine XR_a (op_field0 rfl rfl) rfl rfl ?_ | refine XR_a (op_fieldn rfl rfl) rfl rfl ?_
  refine XR_a (op_ld (so.cell 0 (i := 1) rfl rfl) rfl rfl rfl) rfl rfl ?_
  refine XR_a (op_len rfl rfl rfl) rfl rfl ?_
  refine XR_a (op_subN (m := 2 ^ w) (n := 1) rfl rfl (by omega) (by simp only [inK]; omega)) rfl rfl ?_
  refine XR_a (op_andS (m := x) (n := 2 ^ w - 1) rfl rfl (by simp only [inK]; omega) (by simp only [inK]; omega)) rfl rfl ?_
  refine XR_as (.int .i64 (m : Nat)) (by rw [and_low, hme]) ?_
  refine XR_a (op_assign rfl) rfl rfl ?_
  refine XR_nil ?_
  refine X_seq ?_
  refine X_reg ?_
  refine XR_a (op_move rfl) rfl rfl ?_
  refine XR_a (op_nilCheck rfl) rfl rfl ?_
  first | refine XR_a (op_field0 rfl rfl) rfl rfl ?_ | refine XR_a (op_fieldn rfl rfl) rfl rfl ?_
  refine XR_a (op_ld (so.cell 0 (i := 1) rfl rfl) rfl rfl rfl) rfl rfl ?_
  refine XR_a (op_move rfl) rfl rfl ?_
  refine XR_a (op_index (i := m) rfl rfl rfl (by omega)) rfl rfl ?_
  refine XR_a (op_ldA (vs := rC (rowQ Q w m)) (fun j u hu => by
    obtain ⟨g', o', e', hc'⟩ := hrd.at_ (by rw [cellsR_len]; omega)
    cases e'
    have hj : j < 3 := (List.getElem?_eq_some_iff.1 hu).1
    have := hc' (m * 3 + j) u (by rw [cellsR_get _ hm hj]; exact hu)
    rwa [← Nat.add_assoc] at this) rfl rfl rfl rfl) rfl rfl ?_
  refine XR_wa (opl_new rfl) rfl rfl rfl ?_
  rintro _ hp ⟨py, rfl, hnew⟩
  replace sn := sn.new hnew
  refine XR_wn (opl_store_whole (us := rC (rowQ Q w m)) sn 0 rfl rfl rfl rfl rfl (one_rC _) rfl) rfl rfl fun _ hp sn => ?_
  simp only [List.set_cons_zero, List.set_cons_succ] at sn
  obtain ⟨vr', pm', vc', D', hd', so'⟩ := (st.ext sn.low).tab
  refine XR_nil ?_
  refine X_seq ?_
  refine X_seq ?_
  refine X_reg ?_
  first | refine XR_a (op_field0 rfl rfl) rfl rfl ?_ | refine XR_a (op_fieldn rfl rfl) rfl rfl ?_
  refine XR_a (op_ld (sn.cell 0 (i := 2) rfl rfl) rfl rfl rfl) rfl rfl ?_
  refine XR_nil ?_
  refine X_cond rfl (fun h => ?_) (fun h => ?_)
  · obtain ⟨hre, hL0⟩ := rowQ_deep h
    obtain ⟨c0, hc0, hcl0, hLe⟩ := longest_in hL0
    have hL1 := (longQ_iff.1 hcl0).1
    have hL2 := longest_le hQ w m
    have hpL : 2 ^ (longest Q w m - w) ≤ 32768 := Nat.pow_le_pow_right (n := 2) (by omega) (show longest Q w m - w ≤ 15 by omega)
    have hpL0 : 0 < 2 ^ (longest Q w m - w) := Nat.pow_pos (by omega)
    have hmem : m ∈ D'.map (·.1) := by rw [hd', List.mem_reverse]; exact deepTo_mem hm h
    obtain ⟨y, hy, hy1⟩ := List.mem_map.1 hmem
    obtain ⟨m', vm⟩ := y
    obtain rfl : m' = m := hy1
    obtain ⟨k1, k2⟩ := keysOf_one (by rw [hd']; exact List.pairwise_reverse.2 ((deepTo_nodup Q w _).imp fun h => Ne.symm h)) hy
    obtain ⟨F', sf⟩ := St.big hy so'.tail.tail.tail.tail
    obtain ⟨gv, nv, cv, rfl, hlenv, _, _, hrdv⟩ := St.row0 sf 0 rfl (by rw [cellsR_len]; simp only; omega)
    rw [cellsR_len] at hlenv
    obtain rfl : nv = 2 ^ (longest Q w m' - w) := by simp only at hlenv; omega
    obtain ⟨jj, hjj⟩ : ∃ jj, x / 2 ^ w % 2 ^ (longest Q w m' - w) = jj := ⟨_, rfl⟩
    have hjl : jj < 2 ^ (longest Q w m' - w) := by rw [← hjj]; exact Nat.mod_lt _ hpL0
    have hfin : findQ Q w x = moreQ Q w m' jj := by unfold findQ; rw [hme, hre]; simp only [if_true]; rw [hjj]
    have hxd : x / 2 ^ w ≤ 32768 := Nat.le_trans (Nat.div_le_self _ _) (by omega)
    obtain ⟨xd, hxde⟩ : ∃ xd, x / 2 ^ w = xd := ⟨_, rfl⟩
    rw [hxde] at hxd hjj
    refine X_seq ?_
    refine X_reg ?_
    refine XR_a (op_move rfl) rfl rfl ?_
    refine XR_a (op_nilCheck rfl) rfl rfl ?_
    first | refine XR_a (op_field0 rfl rfl) rfl rfl ?_ | refine XR_a (op_fieldn rfl rfl) rfl rfl ?_
    refine XR_a (op_ld (so'.cell 0 (i := 2) rfl rfl) rfl rfl rfl) rfl rfl ?_
    refine XR_a (op_move rfl) rfl rfl ?_
    refine XR_wa (opl_mapGet so' 2 rfl k1 k2 rfl rfl rfl) rfl rfl rfl ?_
    rintro _ _ ⟨rfl, rfl⟩
    refine XR_a (op_assign rfl) rfl rfl ?_
    refine XR_nil ?_
    refine X_reg ?_
    refine XR_a (op_move rfl) rfl rfl ?_
    refine XR_a (op_move rfl) rfl rfl ?_
    refine XR_a (op_move rfl) rfl rfl ?_
    refine XR_a (op_nilCheck rfl) rfl rfl ?_
    first | refine XR_a (op_field0 rfl rfl) rfl rfl ?_ | refine XR_a (op_fieldn rfl rfl) rfl rfl ?_
    refine XR_a (op_ld (so'.cell 0 (i := 0) rfl rfl) rfl rfl rfl) rfl rfl ?_
    refine XR_a (op_shrC (m := x) w rfl rfl (by simp only [IntKind.bits]; omega)) rfl rfl ?_
    refine XR_as (.int .i64 (xd : Nat)) (by rw [hxde]) ?_
    refine XR_a (op_move rfl) rfl rfl ?_
    refine XR_a (op_len rfl rfl rfl) rfl rfl ?_
    refine XR_a (op_subN (m := 2 ^ (longest Q w m' - w)) (n := 1) rfl rfl (by omega) (by simp only [inK]; omega)) rfl rfl ?_
    refine XR_a (op_andS (m := xd) (n := 2 ^ (longest Q w m' - w) - 1) rfl rfl (by simp only [inK]; omega) (by simp only [inK]; omega)) rfl rfl ?_
    refine XR_as (.int .i64 (jj : Nat)) (by rw [and_low, hjj]) ?_
    refine XR_a (op_index (i := jj) rfl rfl rfl (by omega)) rfl rfl ?_
    refine XR_a (op_ldA (vs := rC (moreQ Q w m' jj)) (fun j u hu => by
      obtain ⟨g', o', e', hc'⟩ := hrdv.at_ (by rw [cellsR_len]; simp only; omega)
      cases e'
      have hj : j < 3 := (List.getElem?_eq_some_iff.1 hu).1
      have := hc' (jj * 3 + j) u (by rw [cellsR_get _ hjl hj]; exact hu)
      rwa [← Nat.add_assoc] at this) rfl rfl rfl rfl) rfl rfl ?_
    refine XR_wn (opl_store_whole (us := rC (moreQ Q w m' jj)) sn 0 rfl rfl rfl rfl rfl (one_rC _) rfl) rfl rfl fun _ hp sn => ?_
    simp only [List.set_cons_zero, List.set_cons_succ] at sn
    rw [← hfin] at sn
    refine XR_nil ?_
    refine X_seq ?_
    refine X_reg ?_
    refine XR_a (op_ldA (vs := rC (findQ Q w x)) (sn.cells 0 rfl) rfl rfl rfl rfl) rfl rfl ?_
    refine XR_wn (opl_store_whole (us := rC (findQ Q w x)) sn 1 rfl rfl rfl rfl rfl (one_rC _) rfl) rfl rfl fun _ hp sn => ?_
    simp only [List.set_cons_zero, List.set_cons_succ] at sn
    refine XR_nil ?_
    refine X_ret (.cons (RV_agg (vs := rC (findQ Q w x)) rfl rfl rfl (sn.cells 1 rfl)) .nil) ?_
    exact ⟨rfl, sn.low⟩
  · have hfin : findQ Q w x = rowQ Q w m := by unfold findQ; rw [hme, h]; simp
    rw [← hfin] at sn
    refine X_skip ?_
    refine X_seq ?_
    refine X_reg ?_
    refine XR_a (op_ldA (vs := rC (findQ Q w x)) (sn.cells 0 rfl) rfl rfl rfl rfl) rfl rfl ?_
    refine XR_wn (opl_store_whole (us := rC (findQ Q w x)) sn 1 rfl rfl rfl rfl rfl (one_rC _) rfl) rfl rfl fun _ hp sn => ?_
    simp only [List.set_cons_zero, List.set_cons_succ] at sn
    refine XR_nil ?_
    refine X_ret (.cons (RV_agg (vs := rC (findQ Q w x)) rfl rfl rfl (sn.cells 1 rfl)) .nil) ?_
    exact ⟨rfl, sn.low⟩
end Go.Bn
end

section
set_option linter.unusedVariables false
set_option linter.unusedSimpArgs false
set_option maxHeartbeats 4000000
set_option maxRecDepth 20000
namespace Go.Bn
open Go Proofs
theorem qshort_spec {B p w x left : Nat} {Q : List QC} {F : List Res} {hb h0 : Heap} (st : St B hb h0 (tabR p Q w :: F)) (hQ : QOk Q) (hx : x < 32768) (hl : left ≤ 15) (hql : Q.length ≤ 1000) :
    Ret Try.prog 217 [.pointer (some ⟨p, 0, none⟩), .int .i64 (x : Int), .int .i64 (left : Int)] h0 fun v h' => v = .bool (shortB Q left x) ∧ Ext h0 h' := by
  have hpl : 2 ^ left ≤ 32768 := Nat.pow_le_pow_right (n := 2) (by omega) hl
  have hpl0 : 0 < 2 ^ left := Nat.pow_pos (by omega)
  obtain ⟨vr, pm, vc, D, hd, so⟩ := st.tab
  obtain ⟨Ac, nc, cc, rfl, hlenc, _, _, hrd⟩ := so.row 3 rfl
  rw [flat_length _ 3 (fun _ => rfl)] at hlenc
  refine ret_of_X Try.func217 rfl rfl fun w0 hw0 => ?_
  simp only [argE, Nat.zero_add, Nat.reduceAdd]
  refine X_seq ?_
  refine X_reg ?_
  refine XR_a (op_assign rfl) rfl rfl ?_
  refine XR_nil ?_
  refine X_scope rfl (fun _ _ _ hh => hh) ?_
  refine X_seq ?_
  refine X_reg ?_
  refine XR_a (op_assign rfl) rfl rfl ?_
  refine XR_nil ?_
  refine X_seq ?_
  refine X_label ?_
  refine X_seq ?_
  refine X_seq ?_
  refine X_reg ?_
  refine XR_a (op_move rfl) rfl rfl ?_
  refine XR_a (op_nilCheck rfl) rfl rfl ?_
  first | refine XR_a (op_field0 rfl rfl) rfl rfl ?_ | refine XR_a (op_fieldn rfl rfl) rfl rfl ?_
  refine XR_a (op_ld (so.cell 0 (i := 3) rfl rfl) rfl rfl rfl) rfl rfl ?_
  refine XR_a (op_len rfl rfl rfl) rfl rfl ?_
  refine XR_a (op_move rfl) rfl rfl ?_
  refine XR_nil ?_
  refine X_block ?_
  refine X_loop (fun i => nc - i) (fun i => [(0, .pointer (some ⟨p, 0, none⟩)), (1, .int .i64 (x : Nat)), (2, .int .i64 (left : Nat)), (7, .bool false), (13, .slice Ac nc cc), (14, .int .i64 (nc : Nat)), (15, .int .i64 (i : Nat))])
    (fun (i : Nat) hp => Ext h0 hp ∧ i ≤ nc ∧ ∀ c ∈ Q.take i, beginQ left x c = false)
    0 (.cons rfl (.cons rfl (.cons rfl (.cons rfl (.cons rfl (.cons rfl (.cons rfl (.nil _)))))))) ⟨Ext.refl _, by omega, by simp⟩ ?_
  rintro i hp ⟨hxt, hi, hno⟩
  refine X_seq ?_
  refine X_reg ?_
  refine XR_a (op_lss rfl rfl) rfl rfl ?_
  refine XR_nil ?_
  refine X_seq ?_
  refine X_if rfl (fun h => ?_) (fun h => ?_)
  · have hilt : i < Q.length := by omega
    obtain ⟨gc, oc, rfl, hcc⟩ := Rd.flat cC 3 (hrd.ext hxt) (fun _ => rfl) (by omega) (by omega)
    have hQc := hQ.len Q[i] (List.getElem_mem hilt)
    have hQb := hQ.bits Q[i] (List.getElem_mem hilt)
    have htk := List.take_succ_eq_append_getElem hilt
    have hcell := hcc i hilt
    have hmem := List.getElem_mem hilt
    obtain ⟨c, hce⟩ : ∃ c, Q[i] = c := ⟨_, rfl⟩
    rw [hce] at hQc hQb htk hcell hmem
    have hb15 : c.2.1 < 32768 := Nat.lt_of_lt_of_le hQb (Nat.pow_le_pow_right (n := 2) (by omega) hQc.2)
    have hnext : beginQ left x c = false → ∀ d ∈ Q.take (i + 1), beginQ left x d = false := by
      intro h d hd
      rw [htk] at hd
      rcases List.mem_append.1 hd with h1 | h1
      · exact hno d h1
      · rw [show d = c by simpa using h1]; exact h
    refine X_skip ?_
    refine X_seq ?_
    refine X_block ?_
    refine X_seq ?_
    refine X_reg ?_
    refine XR_a (op_index (i := i) rfl rfl rfl (by omega)) rfl rfl ?_
    refine XR_a (op_ldA (vs := cC c) (fun j u hu => hcell j u hu) rfl rfl rfl rfl) rfl rfl ?_
    refine XR_wa (opl_new rfl) rfl rfl rfl ?_
    rintro _ hp ⟨px, rfl, hnew⟩
    have sn := ((St.start h0).ext hxt).new hnew
    refine XR_wn (opl_store_whole sn 0 rfl rfl rfl rfl rfl (one_cC c) rfl) rfl rfl fun _ hp sn => ?_
    simp only [List.set_cons_zero, List.set_cons_succ] at sn
    refine XR_nil ?_
    refine X_seq ?_
    refine X_draw byKind (by kernel_rfl) (by kernel_rfl) ?_
    first | refine XR_a (op_field0 rfl rfl) rfl rfl ?_ | refine XR_a (op_fieldn rfl rfl) rfl rfl ?_
    refine XR_a (op_ld (sn.cell 0 (i := 2) rfl rfl) rfl rfl rfl) rfl rfl ?_
    refine XR_a (op_move rfl) rfl rfl ?_
    refine XR_a (op_gtr rfl rfl) rfl rfl ?_
    refine XR_a (op_move rfl) rfl rfl ?_
    refine XR_if 23 rfl (fun h => ?_) (fun h => ?_)
    · first | refine XR_a (op_field0 rfl rfl) rfl rfl ?_ | refine XR_a (op_fieldn rfl rfl) rfl rfl ?_
      refine XR_a (op_ld (sn.cell 0 (i := 1) rfl rfl) rfl rfl rfl) rfl rfl ?_
      refine XR_a (op_move rfl) rfl rfl ?_
      refine XR_a (op_shlC (m := 1) left rfl rfl (by simp only [IntKind.bits]; omega) (by simp only [inK]; omega)) rfl rfl ?_
      refine XR_as (.int .i64 (2 ^ left : Nat)) (by rw [Nat.one_mul]) ?_
      refine XR_a (op_subN (m := 2 ^ left) (n := 1) rfl rfl (by omega) (by simp only [inK]; omega)) rfl rfl ?_
      refine XR_a (op_andS (m := c.2.1) (n := 2 ^ left - 1) rfl rfl (by simp only [inK]; omega) (by simp only [inK]; omega)) rfl rfl ?_
      refine XR_as (.int .i64 (c.2.1 % 2 ^ left : Nat)) (by rw [and_low]) ?_
      refine XR_a (op_move rfl) rfl rfl ?_
      refine XR_a (op_move rfl) rfl rfl ?_
      refine XR_a (op_shlC (m := 1) left rfl rfl (by simp only [IntKind.bits]; omega) (by simp only [inK]; omega)) rfl rfl ?_
      refine XR_as (.int .i64 (2 ^ left : Nat)) (by rw [Nat.one_mul]) ?_
      refine XR_a (op_subN (m := 2 ^ left) (n := 1) rfl rfl (by omega) (by simp only [inK]; omega)) rfl rfl ?_
      refine XR_a (op_andS (m := x) (n := 2 ^ left - 1) rfl rfl (by simp only [inK]; omega) (by simp only [inK]; omega)) rfl rfl ?_
      refine XR_as (.int .i64 (x % 2 ^ left : Nat)) (by rw [and_low]) ?_
      refine XR_a (op_eql rfl rfl) rfl rfl ?_
      refine XR_a (op_pick_t rfl rfl) rfl rfl ?_
      refine XR_nil ?_
      refine X_if rfl (fun h => ?_) (fun h => ?_)
      · refine X_seq ?_
        refine X_reg ?_
        refine XR_a (op_assign rfl) rfl rfl ?_
        refine XR_nil ?_
        refine X_exit rfl ?_
        refine X_seq ?_
        refine X_reg ?_
        refine XR_a (op_move rfl) rfl rfl ?_
        refine XR_a (op_assign rfl) rfl rfl ?_
        refine XR_nil ?_
        refine X_ret (.cons (.tmp rfl) .nil) ?_
        exact ⟨by rw [shortB_true hmem (beginQ_iff.2 ⟨by omega, by omega⟩)]; rfl, sn.low⟩
      · refine X_skip ?_
        refine X_blk ?_
        refine X_reg ?_
        first | refine XR_a (op_addN (n := 1) rfl rfl (by simp only [inK]; omega)) rfl rfl ?_ | refine XR_a (op_addI rfl rfl (by simp only [inK]; omega)) rfl rfl ?_ | refine XR_a (op_add rfl rfl) rfl rfl ?_
        refine XR_a (op_move rfl) rfl rfl ?_
        refine XR_nil ?_
        refine X_again (i + 1) (.cons rfl (.cons rfl (.cons rfl (.cons rfl (.cons rfl (.cons rfl (.cons rfl (.nil _)))))))) ⟨sn.low, by omega, hnext ?_⟩ (by omega)
        cases hh : beginQ left x c with
        | false => rfl
        | true => have := (beginQ_iff.1 hh).2; omega
    · refine XR_no rfl rfl ?_
      refine XR_no rfl rfl ?_
      refine XR_no rfl rfl ?_
      refine XR_no rfl rfl ?_
      refine XR_no rfl rfl ?_
      refine XR_no rfl rfl ?_
      refine XR_no rfl rfl ?_
      refine XR_no rfl rfl ?_
      refine XR_no rfl rfl ?_
      refine XR_no rfl rfl ?_
      refine XR_no rfl rfl ?_
      refine XR_no rfl rfl ?_
      refine XR_a (op_pick_f rfl rfl) rfl rfl ?_
      refine XR_nil ?_
      refine X_else rfl ?_
      refine X_skip ?_
      refine X_blk ?_
      refine X_reg ?_
      first | refine XR_a (op_addN (n := 1) rfl rfl (by simp only [inK]; omega)) rfl rfl ?_ | refine XR_a (op_addI rfl rfl (by simp only [inK]; omega)) rfl rfl ?_ | refine XR_a (op_add rfl rfl) rfl rfl ?_
      refine XR_a (op_move rfl) rfl rfl ?_
      refine XR_nil ?_
      refine X_again (i + 1) (.cons rfl (.cons rfl (.cons rfl (.cons rfl (.cons rfl (.cons rfl (.cons rfl (.nil _)))))))) ⟨sn.low, by omega, hnext ?_⟩ (by omega)
      cases hh : beginQ left x c with
      | false => rfl
      | true => have := (beginQ_iff.1 hh).1; omega
  · refine X_exit rfl ?_
    refine X_seq ?_
    refine X_reg ?_
    refine XR_a (op_move rfl) rfl rfl ?_
    refine XR_a (op_assign rfl) rfl rfl ?_
    refine XR_nil ?_
    refine X_ret (.cons (.tmp rfl) .nil) ?_
    rw [List.take_of_length_le (by omega)] at hno
    exact ⟨by rw [shortB_false hno]; rfl, hxt⟩
theorem eqL_rC (r r' : QR) : eqL (rC r) (rC r') = decide (r = r') := by
  obtain ⟨a, b, c⟩ := r
  obtain ⟨a', b', c'⟩ := r'
  simp only [eqL, eqv, Bool.and_true, Prod.mk.injEq]
  rw [Bool.eq_iff_iff]
  simp [Int.natCast_inj]
def takeQ (Q : List QC) (w : Nat) (bs : List Bool) : Nat × Nat × Nat :=
  if findQ Q w (valB (bs.take 15)) ≠ zeroQ ∧ (findQ Q w (valB (bs.take 15))).2.1 ≤ bs.length then ((findQ Q w (valB (bs.take 15))).1, (findQ Q w (valB (bs.take 15))).2.1, 0)
  else if bs.length < 15 ∧ shortB Q bs.length (valB (bs.take 15)) = true then (0, 0, 2) else (0, 0, 13)
theorem findQ_len {Q : List QC} (h : QOk Q) (w x : Nat) : (findQ Q w x).2.1 ≤ 15 := by
  rw [findQ_eq h]
  cases hq : Q.find? (hitQ x) with
  | some c => exact (h.len c (List.mem_of_find?_eq_some hq)).2
  | none => exact Nat.zero_le _
theorem qtake_spec {B p q w m c a : Nat} {A : Option Addr} {l : List UInt8} {Q : List QC} {F : List Res} {h0 : Heap} (st : St B h0 h0 (rdG q A m c a :: tabR p Q w :: F)) (hQ : QOk Q) (hw : 1 ≤ w ∧ w ≤ 15) (hql : Q.length ≤ 1000)
    (hr : Rd h0 A (l.map byteV)) (hl : l.length = m) (hm : m ≤ 1099511627776) (ha : a ≤ 8 * m) :
    Ret Try.prog 215 [.pointer (some ⟨p, 0, none⟩), .pointer (some ⟨q, 0, none⟩)] h0
      fun v h' => v = retVal [.int .i64 ((takeQ Q w ((bitsB l).drop a)).1 : Nat), .int .i64 ((takeQ Q w ((bitsB l).drop a)).2.2 : Nat)] ∧ St B h0 h' (rdG q A m c (a + (takeQ Q w ((bitsB l).drop a)).2.1) :: tabR p Q w :: F) := by
  have hbl : ((bitsB l).drop a).length = 8 * m - a := by rw [List.length_drop, bitsB_length, hl]
  have hnum : numB (bitsB l) a 15 = valB (((bitsB l).drop a).take 15) := rfl
  obtain ⟨bs, hbs⟩ : ∃ bs, (bitsB l).drop a = bs := ⟨_, rfl⟩
  rw [hbs] at hbl hnum ⊢
  have hxlt : valB (bs.take 15) < 32768 := by
    have := valB_lt (bs.take 15)
    have h2 : 2 ^ (bs.take 15).length ≤ 2 ^ 15 := Nat.pow_le_pow_right (by omega) (by rw [List.length_take]; omega)
    omega
  have htq : takeQ Q w bs = if findQ Q w (valB (bs.take 15)) ≠ zeroQ ∧ (findQ Q w (valB (bs.take 15))).2.1 ≤ bs.length then ((findQ Q w (valB (bs.take 15))).1, (findQ Q w (valB (bs.take 15))).2.1, 0)
    else if bs.length < 15 ∧ shortB Q bs.length (valB (bs.take 15)) = true then (0, 0, 2) else (0, 0, 13) := rfl
  have hfl := findQ_len hQ w (valB (bs.take 15))
  obtain ⟨T, hT⟩ : ∃ T, takeQ Q w bs = T := ⟨_, rfl⟩
  rw [hT] at htq ⊢
  obtain ⟨x, hx⟩ : ∃ x, valB (bs.take 15) = x := ⟨_, rfl⟩
  rw [hx] at hnum hxlt htq hfl
  rw [hbl] at htq
  refine ret_of_X Try.func215 rfl rfl fun w0 hw0 => ?_
  simp only [argE, Nat.zero_add, Nat.reduceAdd]
  refine X_seq ?_
  refine X_reg ?_
  refine XR_a (op_assign rfl) rfl rfl ?_
  refine XR_a (op_assign rfl) rfl rfl ?_
  refine XR_nil ?_
  refine X_seq ?_
  refine X_seq ?_
  refine X_reg ?_
  refine XR_a (op_move rfl) rfl rfl ?_
  refine XR_a (op_ptr_nil rfl rfl rfl) rfl rfl ?_
  refine XR_a (op_move rfl) rfl rfl ?_
  refine XR_a (op_move rfl) rfl rfl ?_
  refine XR_a (op_ptr_nil rfl rfl rfl) rfl rfl ?_
  refine XR_a (op_pick_f rfl rfl) rfl rfl ?_
  refine XR_nil ?_
  refine X_else rfl ?_
  refine X_skip ?_
  refine X_seq ?_
  refine X_reg ?_
  refine XR_a (op_move rfl) rfl rfl ?_
  refine XR_wa (opl_call (rpeek_spec (k := 15) (st.cell 0 rfl rfl) (st.cell 0 rfl rfl) hr hl hm ha) rfl (by kernel_rfl)) rfl rfl rfl ?_
  rintro _ _ ⟨rfl, rfl⟩
  rw [show wd 32 15 = 15 from rfl, hnum]
  refine XR_a (op_convI (k' := .i64) rfl rfl (by simp only [inK]; omega)) rfl rfl ?_
  refine XR_a (op_move rfl) rfl rfl ?_
  refine XR_wa (opl_call (rleft_spec (st.cell 0 rfl rfl) (st.cell 0 rfl rfl) hm ha) rfl (by kernel_rfl)) rfl rfl rfl ?_
  rintro _ _ ⟨rfl, rfl⟩
  refine XR_a (op_assign rfl) rfl rfl ?_
  refine XR_a (op_assign rfl) rfl rfl ?_
  refine XR_nil ?_
  refine X_seq ?_
  refine X_reg ?_
  refine XR_a (op_move rfl) rfl rfl ?_
  refine XR_a (op_move rfl) rfl rfl ?_
  refine XR_wa (opl_call (qfind_spec (st.perm rot) hQ hw hxlt) rfl (by kernel_rfl)) rfl rfl rfl ?_
  rintro _ hp ⟨rfl, hxt⟩
  replace st := st.ext hxt
  obtain ⟨r, hre⟩ : ∃ r, findQ Q w x = r := ⟨_, rfl⟩
  rw [hre] at htq hfl ⊢
  refine XR_wa (opl_new rfl) rfl rfl rfl ?_
  rintro _ hp ⟨px, rfl, hnew⟩
  replace st := st.new hnew
  refine XR_wn (opl_store_whole (us := rC r) st 0 rfl rfl rfl rfl rfl (one_rC r) rfl) rfl rfl fun _ hp st => ?_
  simp only [List.set_cons_zero, List.set_cons_succ] at st
  refine XR_nil ?_
  refine X_seq ?_
  refine X_block ?_
  refine X_seq ?_
  refine X_reg ?_
  refine XR_a (op_ldA (vs := rC r) (st.cells 0 rfl) rfl rfl rfl rfl) rfl rfl ?_
  refine XR_a (op_build (ps := []) (cs := (rC zeroQ).toArray) rfl rfl) rfl rfl ?_
  refine XR_a (op_neqH rfl rfl (neq_flat (ks := [.i .i64, .i .i64, .b]) (by kernel_rfl) (by kernel_rfl) rfl rfl) (by kernel_rfl)) rfl rfl ?_
  refine XR_as (.bool (decide (r ≠ zeroQ))) (congrArg Value.bool (by rw [eqL_rC]; simp)) ?_
  refine XR_a (op_move rfl) rfl rfl ?_
  refine XR_if 27 rfl (fun h => ?_) (fun h => ?_)
  · first | refine XR_a (op_field0 rfl rfl) rfl rfl ?_ | refine XR_a (op_fieldn rfl rfl) rfl rfl ?_
    refine XR_a (op_ld (st.cell 0 (i := 1) rfl rfl) rfl rfl rfl) rfl rfl ?_
    refine XR_a (op_move rfl) rfl rfl ?_
    refine XR_a (op_leq rfl rfl) rfl rfl ?_
    refine XR_a (op_pick_t rfl rfl) rfl rfl ?_
    refine XR_a (op_assign rfl) rfl rfl ?_
    refine XR_nil ?_
    refine X_if rfl (fun h => ?_) (fun h => ?_)
    · rw [if_pos ⟨by assumption, by omega⟩] at htq
      subst htq
      have hwd : wd 32 (r.2.1 : Int) = r.2.1 := by unfold wd; omega
      refine X_seq ?_
      refine X_reg ?_
      refine XR_a (op_move rfl) rfl rfl ?_
      first | refine XR_a (op_field0 rfl rfl) rfl rfl ?_ | refine XR_a (op_fieldn rfl rfl) rfl rfl ?_
      refine XR_a (op_ld (st.cell 0 (i := 1) rfl rfl) rfl rfl rfl) rfl rfl ?_
      refine XR_wa (opl_call (rskip_spec (k := (r.2.1 : Int)) (st.perm rot).here hm ha) rfl (by kernel_rfl)) rfl rfl rfl ?_
      rintro _ hp ⟨_, st2⟩
      rw [hwd, if_pos (by omega)] at st2
      replace st := ((st.perm rot).trans st2).perm rot
      refine XR_nil ?_
      refine X_seq ?_
      refine X_reg ?_
      first | refine XR_a (op_field0 rfl rfl) rfl rfl ?_ | refine XR_a (op_fieldn rfl rfl) rfl rfl ?_
      refine XR_a (op_ld (st.cell 0 (i := 0) rfl rfl) rfl rfl rfl) rfl rfl ?_
      refine XR_a (op_assign rfl) rfl rfl ?_
      refine XR_a (op_assign rfl) rfl rfl ?_
      refine XR_nil ?_
      refine X_ret (.cons (.tmp rfl) (.cons (.tmp rfl) .nil)) ?_
      exact ⟨rfl, st.tail⟩
    · refine X_seq ?_
      have hnn : ¬ (r ≠ zeroQ ∧ r.2.1 ≤ 8 * m - a) := fun hh => by
        first
        | exact absurd hh.1 (by assumption)
        | (have := hh.2; omega)
      rw [if_neg hnn] at htq
      refine X_reg ?_
      refine XR_a (op_move rfl) rfl rfl ?_
      refine XR_a (op_lss rfl rfl) rfl rfl ?_
      refine XR_a (op_move rfl) rfl rfl ?_
      refine XR_if 42 rfl (fun h => ?_) (fun h => ?_)
      · refine XR_a (op_move rfl) rfl rfl ?_
        refine XR_a (op_move rfl) rfl rfl ?_
        refine XR_a (op_move rfl) rfl rfl ?_
        refine XR_wa (opl_call (qshort_spec st.tail.tail hQ hxlt (by omega) hql) rfl (by kernel_rfl)) rfl rfl rfl ?_
        rintro _ hp ⟨rfl, hxt2⟩
        replace st := st.ext hxt2
        refine XR_a (op_pick_t rfl rfl) rfl rfl ?_
        refine XR_a (op_assign rfl) rfl rfl ?_
        refine XR_nil ?_
        refine X_cond rfl (fun h => ?_) (fun h => ?_)
        · refine X_seq ?_
          refine X_reg ?_
          refine XR_a (op_assign rfl) rfl rfl ?_
          refine XR_a (op_assign rfl) rfl rfl ?_
          refine XR_nil ?_
          refine X_ret (.cons (.tmp rfl) (.cons (.tmp rfl) .nil)) ?_
          rename_i hs
          rw [if_pos ⟨by omega, by assumption⟩] at htq
          subst htq
          exact ⟨rfl, st.tail⟩
        · refine X_skip ?_
          refine X_blk ?_
          refine X_seq ?_
          refine X_reg ?_
          refine XR_a (op_assign rfl) rfl rfl ?_
          refine XR_a (op_assign rfl) rfl rfl ?_
          refine XR_nil ?_
          refine X_ret (.cons (.tmp rfl) (.cons (.tmp rfl) .nil)) ?_
          rw [if_neg (fun hh => by rw [h] at hh; exact absurd hh.2 (by simp))] at htq
          subst htq
          exact ⟨rfl, st.tail⟩
      · refine XR_no rfl rfl ?_
        refine XR_no rfl rfl ?_
        refine XR_no rfl rfl ?_
        refine XR_no rfl rfl ?_
        refine XR_a (op_pick_f rfl rfl) rfl rfl ?_
        refine XR_a (op_assign rfl) rfl rfl ?_
        refine XR_nil ?_
        refine X_else rfl ?_
        refine X_skip ?_
        refine X_blk ?_
        refine X_seq ?_
        refine X_reg ?_
        refine XR_a (op_assign rfl) rfl rfl ?_
        refine XR_a (op_assign rfl) rfl rfl ?_
        refine XR_nil ?_
        refine X_ret (.cons (.tmp rfl) (.cons (.tmp rfl) .nil)) ?_
        rw [if_neg (fun hh => by have := hh.1; omega)] at htq
        subst htq
        exact ⟨rfl, st.tail⟩
  · refine XR_no rfl rfl ?_
    refine XR_no rfl rfl ?_
    refine XR_no rfl rfl ?_
    refine XR_no rfl rfl ?_
    refine XR_a (op_pick_f rfl rfl) rfl rfl ?_
    refine XR_a (op_assign rfl) rfl rfl ?_
    refine XR_nil ?_
    refine X_else rfl ?_
    refine X_seq ?_
    have hnn : ¬ (r ≠ zeroQ ∧ r.2.1 ≤ 8 * m - a) := fun hh => by
      first
      | exact absurd hh.1 (by assumption)
      | (have := hh.2; omega)
    rw [if_neg hnn] at htq
    refine X_reg ?_
    refine XR_a (op_move rfl) rfl rfl ?_
    refine XR_a (op_lss rfl rfl) rfl rfl ?_
    refine XR_a (op_move rfl) rfl rfl ?_
    refine XR_if 42 rfl (fun h => ?_) (fun h => ?_)
    · refine XR_a (op_move rfl) rfl rfl ?_
      refine XR_a (op_move rfl) rfl rfl ?_
      refine XR_a (op_move rfl) rfl rfl ?_
      refine XR_wa (opl_call (qshort_spec st.tail.tail hQ hxlt (by omega) hql) rfl (by kernel_rfl)) rfl rfl rfl ?_
      rintro _ hp ⟨rfl, hxt2⟩
      replace st := st.ext hxt2
      refine XR_a (op_pick_t rfl rfl) rfl rfl ?_
      refine XR_a (op_assign rfl) rfl rfl ?_
      refine XR_nil ?_
      refine X_cond rfl (fun h => ?_) (fun h => ?_)
      · refine X_seq ?_
        refine X_reg ?_
        refine XR_a (op_assign rfl) rfl rfl ?_
        refine XR_a (op_assign rfl) rfl rfl ?_
        refine XR_nil ?_
        refine X_ret (.cons (.tmp rfl) (.cons (.tmp rfl) .nil)) ?_
        rename_i hs
        rw [if_pos ⟨by omega, by assumption⟩] at htq
        subst htq
        exact ⟨rfl, st.tail⟩
      · refine X_skip ?_
        refine X_blk ?_
        refine X_seq ?_
        refine X_reg ?_
        refine XR_a (op_assign rfl) rfl rfl ?_
        refine XR_a (op_assign rfl) rfl rfl ?_
        refine XR_nil ?_
        refine X_ret (.cons (.tmp rfl) (.cons (.tmp rfl) .nil)) ?_
        rw [if_neg (fun hh => by rw [h] at hh; exact absurd hh.2 (by simp))] at htq
        subst htq
        exact ⟨rfl, st.tail⟩
    · refine XR_no rfl rfl ?_
      refine XR_no rfl rfl ?_
      refine XR_no rfl rfl ?_
      refine XR_no rfl rfl ?_
      refine XR_a (op_pick_f rfl rfl) rfl rfl ?_
      refine XR_a (op_assign rfl) rfl rfl ?_
      refine XR_nil ?_
      refine X_else rfl ?_
      refine X_skip ?_
      refine X_blk ?_
      refine X_seq ?_
      refine X_reg ?_
      refine XR_a (op_assign rfl) rfl rfl ?_
      refine XR_a (op_assign rfl) rfl rfl ?_
      refine XR_nil ?_
      refine X_ret (.cons (.tmp rfl) (.cons (.tmp rfl) .nil)) ?_
      rw [if_neg (fun hh => by have := hh.1; omega)] at htq
      subst htq
      exact ⟨rfl, st.tail⟩
end Go.Bn
end

section
set_option linter.unusedVariables false
set_option linter.unusedSimpArgs false
namespace Go.Bn
theorem zero_symQ {Q : List QC} (h : QOk Q) {c : QC} (hc : c ∈ Q) : symQ c ≠ zeroQ := by
  intro e
  have := congrArg (fun r : QR => r.2.1) e
  have h1 := (h.len c hc).1
  simp only [symQ, zeroQ] at this
  omega
theorem takeQ_S {Q : List QC} (h : QOk Q) (w : Nat) (bs : List Bool) : takeQ Q w bs = takeS Q bs := by
  unfold takeQ takeS
  rw [findQ_eq h]
  obtain ⟨x, hx⟩ : ∃ x, valB (bs.take 15) = x := ⟨_, rfl⟩
  have hmi : ∀ c, matchQ bs c = true ↔ c.2.2 ≤ bs.length ∧ hitQ x c = true := fun c => by rw [← hx]; exact matchQ_iff
  rw [hx]
  have hsh15 : 15 ≤ bs.length → shortB Q bs.length x = false := fun hl => shortB_false fun c hc => by
    cases hh : beginQ bs.length x c with
    | false => rfl
    | true => have := (beginQ_iff.1 hh).1; have := (h.len c hc).2; omega
  have htail : (if bs.length < 15 ∧ shortB Q bs.length x = true then ((0, 0, 2) : Nat × Nat × Nat) else (0, 0, 13)) = if shortB Q bs.length x = true then (0, 0, 2) else (0, 0, 13) := by
    rcases Nat.lt_or_ge bs.length 15 with hl | hl
    · by_cases hs : shortB Q bs.length x = true
      · rw [if_pos ⟨hl, hs⟩, if_pos hs]
      · rw [if_neg (fun hh => hs hh.2), if_neg hs]
    · rw [hsh15 hl, if_neg (fun hh => absurd hh.2 (by simp)), if_neg (by simp)]
  cases hq : Q.find? (hitQ x) with
  | some c =>
    have hc := List.mem_of_find?_eq_some hq
    have hcx := List.find?_some hq
    simp only
    by_cases hn : c.2.2 ≤ bs.length
    · have hm : Q.find? (matchQ bs) = some c := find_some_of hc ((hmi c).2 ⟨hn, hcx⟩) fun d hd hh => hitQ_one h hd hc ((hmi d).1 hh).2 hcx
      rw [if_pos ⟨zero_symQ h hc, hn⟩, hm]; rfl
    · have hm : Q.find? (matchQ bs) = none := find_none_of fun d hd => by
        cases hh : matchQ bs d with
        | false => rfl
        | true =>
          obtain ⟨h1, h2⟩ := (hmi d).1 hh
          have e := hitQ_one h hd hc h2 hcx
          rw [e] at h1; exact absurd h1 hn
      rw [if_neg (fun hh => hn hh.2), hm, htail]
  | none =>
    have hnone := List.find?_eq_none.1 hq
    have hm : Q.find? (matchQ bs) = none := find_none_of fun d hd => by
      cases hh : matchQ bs d with
      | false => rfl
      | true => exact absurd ((hmi d).1 hh).2 (hnone d hd)
    simp only
    rw [if_neg (fun hh => hh.1 rfl), hm, htail]
theorem takeQ_C {ls : List Nat} (hok : lensOK ls) (w : Nat) (bs : List Bool) : takeQ (qcodes ls) w bs = takeC ls bs := by rw [takeQ_S (qcodes_ok hok), takeC_S hok]
end Go.Bn
end

section
set_option linter.unusedVariables false
set_option linter.unusedSimpArgs false
set_option maxHeartbeats 4000000
set_option maxRecDepth 20000
namespace Go.Bn
open Go Proofs
theorem fwidth_spec (k : Int) (hp : Heap) : Ret Try.prog 86 [.int .i64 k] hp fun v hp' => v = .int .i64 (wid k : Nat) ∧ hp = hp' := by
  refine ret_of_X Try.func86 rfl rfl fun w0 hw0 => ?_
  simp only [argE, Nat.zero_add, Nat.reduceAdd]
  refine X_seq ?_
  refine X_reg ?_
  refine XR_a (op_assign rfl) rfl rfl ?_
  refine XR_nil ?_
  refine X_seq ?_
  refine X_reg ?_
  refine XR_a (op_move rfl) rfl rfl ?_
  refine XR_a (op_min2 rfl rfl) rfl rfl ?_
  refine XR_a (op_max2 rfl rfl) rfl rfl ?_
  refine XR_a (op_assign rfl) rfl rfl ?_
  refine XR_nil ?_
  refine X_ret (.cons (.tmp rfl) .nil) ?_
  refine ⟨?_, rfl⟩
  rw [wid_int]; rfl
theorem fget_spec {at_ k : Int} {A : Option Addr} {n c : Nat} {l : List UInt8} {h0 : Heap} (hr : Rd h0 A (l.map byteV)) (hl : l.length = n) (hn : n ≤ 140737488355328) (ha : inK .i64 at_) :
    Ret Try.prog 87 [.slice A n c, .int .i64 at_, .int .i64 k] h0 fun v h' => v = retVal [.int .u32 (((getF l at_ k).getD 0 : Nat) : Int), .bool (getF l at_ k).isSome] ∧ h0 = h' := by
  have hw := wid_le k
  have hw1 := wid_pos k
  simp only [inK] at ha
  refine ret_of_X Try.func87 rfl rfl fun w0 hw0 => ?_
  simp only [argE, Nat.zero_add, Nat.reduceAdd]
  refine X_seq ?_
  refine X_reg ?_
  refine XR_a (op_assign rfl) rfl rfl ?_
  refine XR_a (op_assign rfl) rfl rfl ?_
  refine XR_nil ?_
  refine X_seq ?_
  refine X_reg ?_
  refine XR_a (op_move rfl) rfl rfl ?_
  refine XR_wa (opl_call (fwidth_spec _ _) rfl (by kernel_rfl)) rfl rfl rfl ?_
  rintro _ _ ⟨rfl, rfl⟩
  refine XR_a (op_assign rfl) rfl rfl ?_
  refine XR_nil ?_
  refine X_seq ?_
  refine X_seq ?_
  refine X_reg ?_
  refine XR_a (op_move rfl) rfl rfl ?_
  refine XR_a (op_lss rfl rfl) rfl rfl ?_
  refine XR_a (op_move rfl) rfl rfl ?_
  refine XR_if 15 rfl (fun h => ?_) (fun h => ?_)
  · refine XR_no rfl rfl ?_
    refine XR_no rfl rfl ?_
    refine XR_no rfl rfl ?_
    refine XR_no rfl rfl ?_
    refine XR_no rfl rfl ?_
    refine XR_no rfl rfl ?_
    refine XR_a (op_pick_t rfl rfl) rfl rfl ?_
    refine XR_nil ?_
    refine X_then rfl ?_
    refine X_seq ?_
    refine X_reg ?_
    refine XR_a (op_assign rfl) rfl rfl ?_
    refine XR_a (op_assign rfl) rfl rfl ?_
    refine XR_nil ?_
    refine X_ret (.cons (.tmp rfl) (.cons (.tmp rfl) .nil)) ?_
    have : getF l at_ k = none := by unfold getF; rw [if_neg (by omega)]
    rw [this]; exact ⟨rfl, rfl⟩
  · refine XR_a (op_move rfl) rfl rfl ?_
    refine XR_a (op_move rfl) rfl rfl ?_
    refine XR_a (op_len rfl rfl rfl) rfl rfl ?_
    refine XR_a (op_move rfl) rfl rfl ?_
    refine XR_a (op_subI rfl rfl (by simp only [inK]; omega)) rfl rfl ?_
    refine XR_a (op_gtr rfl rfl) rfl rfl ?_
    refine XR_a (op_pick_f rfl rfl) rfl rfl ?_
    refine XR_nil ?_
    refine X_if rfl (fun h => ?_) (fun h => ?_)
    · refine X_seq ?_
      refine X_reg ?_
      refine XR_a (op_assign rfl) rfl rfl ?_
      refine XR_a (op_assign rfl) rfl rfl ?_
      refine XR_nil ?_
      refine X_ret (.cons (.tmp rfl) (.cons (.tmp rfl) .nil)) ?_
      have : getF l at_ k = none := by unfold getF; rw [if_neg (by omega)]
      rw [this]; exact ⟨rfl, rfl⟩
    · obtain ⟨a, rfl⟩ : ∃ a : Nat, at_ = (a : Int) := ⟨at_.toNat, by omega⟩
      have hg : getF l (a : Int) k = some (leV ((l.drop a).take (wid k))) := by unfold getF; rw [if_pos (by omega)]; simp
      rw [hg]
      refine X_skip ?_
      refine X_seq ?_
      refine X_reg ?_
      refine XR_a (op_assign rfl) rfl rfl ?_
      refine XR_nil ?_
      refine X_seq ?_
      refine X_seq ?_
      refine X_reg ?_
      refine XR_a (op_move rfl) rfl rfl ?_
      refine XR_a (op_subI rfl rfl (by simp only [inK]; omega)) rfl rfl ?_
      refine XR_a (op_assign rfl) rfl rfl ?_
      refine XR_nil ?_
      refine X_block ?_
      obtain ⟨b, o, rfl, hc⟩ : ∃ b o, A = some ⟨b, o, none⟩ ∧ ∀ i u, (l.map byteV)[i]? = some u → cellH h0 ⟨b, o + i, none⟩ = some u := by
        rcases hr with h | h
        · exfalso
          have : l = [] := by simpa using h
          subst this; simp at hl; omega
        · exact h
      refine X_loop (fun s => s) (fun s => [(0, .slice (some ⟨b, o, none⟩) n c), (1, .int .i64 (a : Int)), (9, .int .u32 (leV ((l.drop (a + s)).take (wid k - s)) : Nat)), (10, .int .i64 ((s : Int) - 1))])
        (fun (s : Nat) hp => h0 = hp ∧ s ≤ wid k)
        (wid k) (.cons rfl (.cons rfl (.cons (by simp [leV]; rfl) (.cons rfl (.nil _))))) ⟨rfl, Nat.le_refl _⟩ ?_
      rintro i hp ⟨rfl, hi⟩
      refine X_seq ?_
      refine X_seq ?_
      refine X_reg ?_
      refine XR_a (op_move rfl) rfl rfl ?_
      refine XR_a (op_geq rfl rfl) rfl rfl ?_
      refine XR_nil ?_
      refine X_if rfl (fun h => ?_) (fun h => ?_)
      · obtain ⟨i, rfl⟩ : ∃ j, i = j + 1 := ⟨i - 1, by omega⟩
        have hlt : a + i < l.length := by omega
        have hstep : (l.drop (a + i)).take (wid k - i) = l[a + i] :: (l.drop (a + (i + 1))).take (wid k - (i + 1)) := by
          rw [List.drop_eq_getElem_cons hlt, show wid k - i = (wid k - (i + 1)) + 1 by omega, List.take_succ_cons]; rfl
        have hcell := hc (a + i) (byteV l[a + i]) (by simp [hlt])
        have hv := leV_lt ((l.drop (a + (i + 1))).take (wid k - (i + 1)))
        have hv2 : leV ((l.drop (a + (i + 1))).take (wid k - (i + 1))) < 16777216 := by
          refine Nat.lt_of_lt_of_le hv (Nat.le_trans (Nat.pow_le_pow_right (by omega) (?_ : _ ≤ 3)) (by decide))
          rw [List.length_take]; omega
        have hb := (l[a + i]).toNat_lt
        rw [show (((i + 1 : Nat) : Int) - 1) = (i : Int) by omega]
        refine X_skip ?_
        refine X_seq ?_
        refine X_block ?_
        refine X_reg ?_
        refine XR_a (op_move rfl) rfl rfl ?_
        first | refine XR_a (op_shlC 8 rfl rfl (by decide) (by simp only [inK]; omega)) rfl rfl ?_ | refine XR_a (op_shlI 8 rfl rfl (by decide) (by simp only [inK]; omega)) rfl rfl ?_ | refine XR_a (op_shlN 8 rfl rfl (by decide)) rfl rfl ?_
        refine XR_a (op_move rfl) rfl rfl ?_
        refine XR_a (op_move rfl) rfl rfl ?_
        refine XR_a (op_move rfl) rfl rfl ?_
        first | refine XR_a (op_addN rfl rfl (by simp only [inK]; omega)) rfl rfl ?_ | refine XR_a (op_addI rfl rfl (by simp only [inK]; omega)) rfl rfl ?_ | refine XR_a (op_add rfl rfl) rfl rfl ?_
        refine XR_a (op_index1 (i := a + i) rfl rfl rfl (by omega)) rfl rfl ?_
        refine XR_a (op_ld (hcell) rfl rfl rfl) rfl rfl ?_
        refine XR_a (op_convI rfl rfl (by simp only [inK]; omega)) rfl rfl ?_
        refine XR_a (op_orN rfl rfl rfl (by simp only [IntKind.bits]; omega) (by simp only [IntKind.bits]; omega)) rfl rfl ?_
        rw [show leV ((l.drop (a + (i + 1))).take (wid k - (i + 1))) * 2 ^ 8 ||| l[a + i].toNat = leV ((l.drop (a + i)).take (wid k - i)) by
          rw [hstep, leV, Nat.mul_comm, ← Nat.two_pow_add_eq_or_of_lt hb]; omega]
        refine XR_a (op_assign rfl) rfl rfl ?_
        refine XR_nil ?_
        refine X_blk ?_
        refine X_reg ?_
        refine XR_a (op_move rfl) rfl rfl ?_
        refine XR_a (op_subI rfl rfl (by simp only [inK]; omega)) rfl rfl ?_
        refine XR_a (op_assign rfl) rfl rfl ?_
        refine XR_nil ?_
        exact X_again i (.cons rfl (.cons rfl (.cons rfl (.cons rfl (.nil _))))) ⟨rfl, by omega⟩ (by omega)
      · refine X_exit rfl ?_
        refine X_seq ?_
        refine X_reg ?_
        refine XR_a (op_move rfl) rfl rfl ?_
        refine XR_a (op_assign rfl) rfl rfl ?_
        refine XR_a (op_assign rfl) rfl rfl ?_
        refine XR_nil ?_
        refine X_ret (.cons (.tmp rfl) (.cons (.tmp rfl) .nil)) ?_
        have : i = 0 := by omega
        subst this
        exact ⟨rfl, rfl⟩
end Go.Bn
end

section
set_option linter.unusedVariables false
set_option linter.unusedSimpArgs false
set_option maxHeartbeats 4000000
set_option maxRecDepth 20000
namespace Go.Bn
open Go Proofs
theorem St.only {B : Nat} {h0 hp : Heap} {r : Res} : ∀ {rs : List Res}, St B h0 hp (r :: rs) → St B h0 hp [r]
  | [], s => s
  | _ :: _, s => (s.perm (List.Perm.swap _ _ _)).tail.only
@[reducible] def fdG (p : Nat) (A : Option Addr) (m c at_ : Nat) (bad : Bool) : Res := pt p 141 [.slice A m c, .int .i64 (at_ : Int), .bool bad]
theorem fnew_spec {m c : Nat} {A : Option Addr} {h0 : Heap} : Ret Try.prog 47 [.slice A m c] h0 fun v h' => ∃ p, v = .pointer (some ⟨p, 0, none⟩) ∧ St h0.size h0 h' [fdG p A m c 0 false] := by
  refine ret_of_X Try.func47 rfl rfl fun w0 hw0 => ?_
  simp only [argE, Nat.zero_add, Nat.reduceAdd]
  have st := St.start h0
  refine X_seq ?_
  refine X_reg ?_
  refine XR_a (op_assign rfl) rfl rfl ?_
  refine XR_nil ?_
  refine X_seq ?_
  refine X_reg ?_
  refine XR_a (op_move rfl) rfl rfl ?_
  refine XR_a (op_build (ps := [(0, .slice A m c)]) (cs := #[.slice A m c, .int .i64 0, .bool false]) rfl rfl) rfl rfl ?_
  refine XR_wa (opl_bx rfl rfl) rfl rfl rfl ?_
  rintro _ hp ⟨p, rfl, hnew⟩
  have st := st.new hnew
  refine XR_a (op_assign rfl) rfl rfl ?_
  refine XR_nil ?_
  refine X_ret (.cons (.tmp rfl) .nil) ?_
  exact ⟨_, rfl, st⟩
theorem fok_spec {p : Nat} {b : Bool} {h0 : Heap} (c2 : cellH h0 ⟨p, 2, none⟩ = some (.bool b)) : Ret Try.prog 59 [.pointer (some ⟨p, 0, none⟩)] h0 fun v h' => v = .bool (!b) ∧ h0 = h' := by
  refine ret_of_X Try.func59 rfl rfl fun w0 hw0 => ?_
  simp only [argE, Nat.zero_add, Nat.reduceAdd]
  refine X_seq ?_
  refine X_reg ?_
  refine XR_a (op_assign rfl) rfl rfl ?_
  refine XR_nil ?_
  refine X_seq ?_
  refine X_reg ?_
  refine XR_a (op_move rfl) rfl rfl ?_
  refine XR_a (op_ptr_nnil rfl rfl rfl) rfl rfl ?_
  refine XR_a (op_move rfl) rfl rfl ?_
  refine XR_a (op_move rfl) rfl rfl ?_
  refine XR_a (op_nilCheck rfl) rfl rfl ?_
  first | refine XR_a (op_field0 rfl rfl) rfl rfl ?_ | refine XR_a (op_fieldn rfl rfl) rfl rfl ?_
  refine XR_a (op_ld (by first | assumption | exact st.cell 0 rfl rfl | exact st.cell 1 rfl rfl | exact st.cell 2 rfl rfl | exact st.cell 3 rfl rfl) rfl rfl rfl) rfl rfl ?_
  refine XR_a (op_not rfl) rfl rfl ?_
  refine XR_a (op_pick_t rfl rfl) rfl rfl ?_
  refine XR_a (op_assign rfl) rfl rfl ?_
  refine XR_nil ?_
  refine X_ret (.cons (.tmp rfl) .nil) ?_
  exact ⟨rfl, rfl⟩
theorem fleft_spec {p m c a : Nat} {A : Option Addr} {h0 : Heap} (c0 : cellH h0 ⟨p, 0, none⟩ = some (.slice A m c)) (c1 : cellH h0 ⟨p, 1, none⟩ = some (.int .i64 (a : Int))) (hm : m ≤ 1099511627776) (ha : a ≤ m) :
    Ret Try.prog 60 [.pointer (some ⟨p, 0, none⟩)] h0 fun v h' => v = .int .i64 (m - a : Nat) ∧ h0 = h' := by
  refine ret_of_X Try.func60 rfl rfl fun w0 hw0 => ?_
  simp only [argE, Nat.zero_add, Nat.reduceAdd]
  refine X_seq ?_
  refine X_reg ?_
  refine XR_a (op_assign rfl) rfl rfl ?_
  refine XR_nil ?_
  refine X_seq ?_
  refine X_seq ?_
  refine X_reg ?_
  refine XR_a (op_move rfl) rfl rfl ?_
  refine XR_a (op_ptr_nil rfl rfl rfl) rfl rfl ?_
  refine XR_nil ?_
  refine X_else rfl ?_
  refine X_skip ?_
  refine X_seq ?_
  refine X_draw byKind (by kernel_rfl) (by kernel_rfl) ?_
  refine XR_a (op_move rfl) rfl rfl ?_
  refine XR_a (op_nilCheck rfl) rfl rfl ?_
  first | refine XR_a (op_field0 rfl rfl) rfl rfl ?_ | refine XR_a (op_fieldn rfl rfl) rfl rfl ?_
  refine XR_a (op_ld (by first | assumption | exact st.cell 0 rfl rfl | exact st.cell 1 rfl rfl | exact st.cell 2 rfl rfl | exact st.cell 3 rfl rfl) rfl rfl rfl) rfl rfl ?_
  refine XR_a (op_len rfl rfl rfl) rfl rfl ?_
  refine XR_a (op_move rfl) rfl rfl ?_
  refine XR_a (op_nilCheck rfl) rfl rfl ?_
  first | refine XR_a (op_field0 rfl rfl) rfl rfl ?_ | refine XR_a (op_fieldn rfl rfl) rfl rfl ?_
  refine XR_a (op_ld (by first | assumption | exact st.cell 0 rfl rfl | exact st.cell 1 rfl rfl | exact st.cell 2 rfl rfl | exact st.cell 3 rfl rfl) rfl rfl rfl) rfl rfl ?_
  first | refine XR_a (op_subN rfl rfl (by omega) (by simp only [inK]; omega)) rfl rfl ?_ | refine XR_a (op_subI rfl rfl (by simp only [inK]; omega)) rfl rfl ?_ | refine XR_a (op_sub rfl rfl) rfl rfl ?_
  refine XR_a (op_assign rfl) rfl rfl ?_
  refine XR_nil ?_
  refine X_ret (.cons (.tmp rfl) .nil) ?_
  exact ⟨rfl, rfl⟩
theorem fnum_spec {B p m c a : Nat} {k : Int} {A : Option Addr} {l : List UInt8} {F : List Res} {h0 : Heap} (st : St B h0 h0 (fdG p A m c a false :: F)) (hr : Rd h0 A (l.map byteV)) (hl : l.length = m) (hm : m ≤ 1099511627776) (ha : a ≤ m) :
    Ret Try.prog 57 [.pointer (some ⟨p, 0, none⟩), .int .i64 k] h0 fun v h' =>
      v = .int .u32 (((getF l a k).getD 0 : Nat) : Int) ∧ St B h0 h' (fdG p A m c (if (getF l a k).isSome = true then a + wid k else a) (!(getF l a k).isSome) :: F) := by
  have hw := wid_le k
  refine ret_of_X Try.func57 rfl rfl fun w0 hw0 => ?_
  simp only [argE, Nat.zero_add, Nat.reduceAdd]
  refine X_seq ?_
  refine X_reg ?_
  refine XR_a (op_assign rfl) rfl rfl ?_
  refine XR_nil ?_
  refine X_seq ?_
  refine X_seq ?_
  refine X_reg ?_
  refine XR_a (op_move rfl) rfl rfl ?_
  refine XR_wa (opl_call (fok_spec (st.cell 0 rfl rfl)) rfl (by kernel_rfl)) rfl rfl rfl ?_
  rintro _ _ ⟨rfl, rfl⟩
  refine XR_a (op_not rfl) rfl rfl ?_
  refine XR_nil ?_
  refine X_else rfl ?_
  refine X_skip ?_
  refine X_seq ?_
  refine X_draw byKind (by kernel_rfl) (by kernel_rfl) ?_
  refine XR_a (op_move rfl) rfl rfl ?_
  refine XR_a (op_nilCheck rfl) rfl rfl ?_
  first | refine XR_a (op_field0 rfl rfl) rfl rfl ?_ | refine XR_a (op_fieldn rfl rfl) rfl rfl ?_
  refine XR_a (op_ld (by first | assumption | exact st.cell 0 rfl rfl | exact st.cell 1 rfl rfl | exact st.cell 2 rfl rfl | exact st.cell 3 rfl rfl) rfl rfl rfl) rfl rfl ?_
  refine XR_a (op_move rfl) rfl rfl ?_
  refine XR_a (op_nilCheck rfl) rfl rfl ?_
  first | refine XR_a (op_field0 rfl rfl) rfl rfl ?_ | refine XR_a (op_fieldn rfl rfl) rfl rfl ?_
  refine XR_a (op_ld (by first | assumption | exact st.cell 0 rfl rfl | exact st.cell 1 rfl rfl | exact st.cell 2 rfl rfl | exact st.cell 3 rfl rfl) rfl rfl rfl) rfl rfl ?_
  refine XR_a (op_move rfl) rfl rfl ?_
  refine XR_wa (opl_call (fget_spec hr hl (by omega) (by simp only [inK]; omega)) rfl (by kernel_rfl)) rfl rfl rfl ?_
  rintro _ _ ⟨rfl, rfl⟩
  refine XR_a (op_move rfl) rfl rfl ?_
  refine XR_a (op_extract rfl rfl) rfl rfl ?_
  refine XR_a (op_extract rfl rfl) rfl rfl ?_
  by_cases hg : (getF l a k).isSome = true
  · refine XR_as (.bool true) (congrArg Value.bool hg) ?_
    refine XR_a (op_assign rfl) rfl rfl ?_
    refine XR_a (op_assign rfl) rfl rfl ?_
    refine XR_nil ?_
    refine X_seq ?_
    refine X_seq ?_
    refine X_reg ?_
    refine XR_a (op_move rfl) rfl rfl ?_
    refine XR_a (op_not rfl) rfl rfl ?_
    refine XR_nil ?_
    refine X_else rfl ?_
    refine X_skip ?_
    refine X_seq ?_
    refine X_draw (butAt [(5, .grow)]) (by kernel_rfl) (by kernel_rfl) ?_
    refine XR_a (op_move rfl) rfl rfl ?_
    refine XR_a (op_nilCheck rfl) rfl rfl ?_
    first | refine XR_a (op_field0 rfl rfl) rfl rfl ?_ | refine XR_a (op_fieldn rfl rfl) rfl rfl ?_
    refine XR_a (op_ld (by first | assumption | exact st.cell 0 rfl rfl | exact st.cell 1 rfl rfl | exact st.cell 2 rfl rfl | exact st.cell 3 rfl rfl) rfl rfl rfl) rfl rfl ?_
    refine XR_a (op_move rfl) rfl rfl ?_
    refine XR_ga (opl_call (fwidth_spec _ _) rfl (by kernel_rfl)) rfl rfl rfl (fun _ _ h => h.2 ▸ Low.refl _ _) ?_
    rintro _ _ ⟨rfl, rfl⟩
    first | refine XR_a (op_addN rfl rfl (by simp only [inK]; omega)) rfl rfl ?_ | refine XR_a (op_addI rfl rfl (by simp only [inK]; omega)) rfl rfl ?_ | refine XR_a (op_add rfl rfl) rfl rfl ?_
    refine XR_a (op_nilCheck rfl) rfl rfl ?_
    first | refine XR_a (op_field0 rfl rfl) rfl rfl ?_ | refine XR_a (op_fieldn rfl rfl) rfl rfl ?_
    refine XR_wn (opl_store_pt st 0 rfl rfl rfl rfl rfl (rfl)) rfl rfl fun _ hp st => ?_
    simp only [List.set_cons_zero, List.set_cons_succ] at st
    refine XR_nil ?_
    refine X_seq ?_
    refine X_reg ?_
    refine XR_a (op_move rfl) rfl rfl ?_
    refine XR_a (op_assign rfl) rfl rfl ?_
    refine XR_nil ?_
    refine X_ret (.cons (.tmp rfl) .nil) ?_
    rw [if_pos hg, hg]
    exact ⟨rfl, st⟩
  · refine XR_as (.bool false) (congrArg Value.bool (by simpa using hg)) ?_
    refine XR_a (op_assign rfl) rfl rfl ?_
    refine XR_a (op_assign rfl) rfl rfl ?_
    refine XR_nil ?_
    refine X_seq ?_
    refine X_seq ?_
    refine X_reg ?_
    refine XR_a (op_move rfl) rfl rfl ?_
    refine XR_a (op_not rfl) rfl rfl ?_
    refine XR_nil ?_
    refine X_then rfl ?_
    refine X_seq ?_
    refine X_reg ?_
    refine XR_a (op_move rfl) rfl rfl ?_
    refine XR_a (op_nilCheck rfl) rfl rfl ?_
    first | refine XR_a (op_field0 rfl rfl) rfl rfl ?_ | refine XR_a (op_fieldn rfl rfl) rfl rfl ?_
    refine XR_wn (opl_store_pt st 0 rfl rfl rfl rfl rfl (rfl)) rfl rfl fun _ hp st => ?_
    simp only [List.set_cons_zero, List.set_cons_succ] at st
    refine XR_nil ?_
    refine X_seq ?_
    refine X_reg ?_
    refine XR_a (op_assign rfl) rfl rfl ?_
    refine XR_nil ?_
    refine X_ret (.cons (.tmp rfl) .nil) ?_
    rw [Option.not_isSome_iff_eq_none] at hg
    rw [hg]
    exact ⟨rfl, st⟩
theorem fbytes_bad {p : Nat} {k : Value} {h0 : Heap} (c2 : cellH h0 ⟨p, 2, none⟩ = some (.bool true)) : Ret Try.prog 58 [.pointer (some ⟨p, 0, none⟩), k] h0 fun v h' => v = .slice none 0 0 ∧ h0 = h' := by
  refine ret_of_X Try.func58 rfl rfl fun w0 hw0 => ?_
  simp only [argE, Nat.zero_add, Nat.reduceAdd]
  refine X_seq ?_
  refine X_reg ?_
  refine XR_a (op_assign rfl) rfl rfl ?_
  refine XR_nil ?_
  refine X_seq ?_
  refine X_seq ?_
  refine X_reg ?_
  refine XR_a (op_move rfl) rfl rfl ?_
  refine XR_wa (opl_call (fok_spec c2) rfl (by kernel_rfl)) rfl rfl rfl ?_
  rintro _ _ ⟨rfl, rfl⟩
  refine XR_a (op_not rfl) rfl rfl ?_
  refine XR_nil ?_
  refine X_then rfl ?_
  refine X_seq ?_
  refine X_reg ?_
  refine XR_a (op_assign rfl) rfl rfl ?_
  refine XR_nil ?_
  refine X_ret (.cons (.tmp rfl) .nil) ?_
  exact ⟨rfl, rfl⟩
theorem fbytes_ok {B p m c a n : Nat} {A : Option Addr} {l : List UInt8} {F : List Res} {h0 : Heap} (st : St B h0 h0 (fdG p A m c a false :: F)) (hr : Rd h0 A (l.map byteV)) (hl : l.length = m) (hm : m ≤ 1099511627776) (hmc : m ≤ c) (hn : n + a ≤ m) :
    Ret Try.prog 58 [.pointer (some ⟨p, 0, none⟩), .int .i64 (n : Int)] h0 fun v h' => St B h0 h' (fdG p A m c (a + n) false :: row 5 1 v (((l.drop a).take n).map byteV) :: F) := by
  refine ret_of_X Try.func58 rfl rfl fun w0 hw0 => ?_
  simp only [argE, Nat.zero_add, Nat.reduceAdd]
  refine X_seq ?_
  refine X_reg ?_
  refine XR_a (op_assign rfl) rfl rfl ?_
  refine XR_nil ?_
  refine X_seq ?_
  refine X_seq ?_
  refine X_reg ?_
  refine XR_a (op_move rfl) rfl rfl ?_
  refine XR_wa (opl_call (fok_spec (st.cell 0 rfl rfl)) rfl (by kernel_rfl)) rfl rfl rfl ?_
  rintro _ _ ⟨rfl, rfl⟩
  refine XR_a (op_not rfl) rfl rfl ?_
  refine XR_nil ?_
  refine X_else rfl ?_
  refine X_skip ?_
  refine X_seq ?_
  refine X_seq ?_
  refine X_draw byKind (by kernel_rfl) (by kernel_rfl) ?_
  refine XR_a (op_move rfl) rfl rfl ?_
  refine XR_a (op_lss rfl rfl) rfl rfl ?_
  refine XR_as (.bool false) (congrArg Value.bool (decide_eq_false (by omega))) ?_
  refine XR_a (op_move rfl) rfl rfl ?_
  refine XR_a (op_move rfl) rfl rfl ?_
  refine XR_a (op_move rfl) rfl rfl ?_
  refine XR_a (op_nilCheck rfl) rfl rfl ?_
  first | refine XR_a (op_field0 rfl rfl) rfl rfl ?_ | refine XR_a (op_fieldn rfl rfl) rfl rfl ?_
  refine XR_a (op_ld (by first | assumption | exact st.cell 0 rfl rfl | exact st.cell 1 rfl rfl | exact st.cell 2 rfl rfl | exact st.cell 3 rfl rfl) rfl rfl rfl) rfl rfl ?_
  refine XR_a (op_len rfl rfl rfl) rfl rfl ?_
  refine XR_a (op_move rfl) rfl rfl ?_
  refine XR_a (op_nilCheck rfl) rfl rfl ?_
  first | refine XR_a (op_field0 rfl rfl) rfl rfl ?_ | refine XR_a (op_fieldn rfl rfl) rfl rfl ?_
  refine XR_a (op_ld (by first | assumption | exact st.cell 0 rfl rfl | exact st.cell 1 rfl rfl | exact st.cell 2 rfl rfl | exact st.cell 3 rfl rfl) rfl rfl rfl) rfl rfl ?_
  first | refine XR_a (op_subN rfl rfl (by omega) (by simp only [inK]; omega)) rfl rfl ?_ | refine XR_a (op_subI rfl rfl (by simp only [inK]; omega)) rfl rfl ?_ | refine XR_a (op_sub rfl rfl) rfl rfl ?_
  refine XR_a (op_gtr rfl rfl) rfl rfl ?_
  refine XR_as (.bool false) (congrArg Value.bool (decide_eq_false (by omega))) ?_
  refine XR_a (op_pick_f rfl rfl) rfl rfl ?_
  refine XR_nil ?_
  refine X_else rfl ?_
  refine X_skip ?_
  refine X_seq ?_
  refine X_reg ?_
  refine XR_a (op_move rfl) rfl rfl ?_
  refine XR_wa (opl_mk (by omega) rfl rfl rfl) rfl rfl rfl ?_
  rintro v hp hnew
  have hxx := hnew.1
  replace st := st.new hnew
  obtain ⟨A2, n2, c2, rfl, hlen2, _, _, _⟩ := st.row 0 rfl
  have hn2 : n2 = n := by simpa using hlen2.symm
  subst hn2
  have hcut := (hr.ext hxx).cut a 1 c (m - a) (by intro hh; simp; omega)
  rw [Nat.mul_one, ← List.map_drop, ← List.map_take, List.take_of_length_le (i := m - a) (by rw [List.length_drop]; omega)] at hcut
  refine XR_a (op_assign rfl) rfl rfl ?_
  refine XR_nil ?_
  refine X_seq ?_
  refine X_draw byKind (by kernel_rfl) (by kernel_rfl) ?_
  refine XR_a (op_move rfl) rfl rfl ?_
  refine XR_a (op_move rfl) rfl rfl ?_
  refine XR_a (op_nilCheck rfl) rfl rfl ?_
  first | refine XR_a (op_field0 rfl rfl) rfl rfl ?_ | refine XR_a (op_fieldn rfl rfl) rfl rfl ?_
  refine XR_a (op_ld (by first | assumption | exact st.cell 0 rfl rfl | exact st.cell 1 rfl rfl | exact st.cell 2 rfl rfl | exact st.cell 3 rfl rfl) rfl rfl rfl) rfl rfl ?_
  refine XR_a (op_move rfl) rfl rfl ?_
  refine XR_a (op_nilCheck rfl) rfl rfl ?_
  first | refine XR_a (op_field0 rfl rfl) rfl rfl ?_ | refine XR_a (op_fieldn rfl rfl) rfl rfl ?_
  refine XR_a (op_ld (by first | assumption | exact st.cell 0 rfl rfl | exact st.cell 1 rfl rfl | exact st.cell 2 rfl rfl | exact st.cell 3 rfl rfl) rfl rfl rfl) rfl rfl ?_
  refine XR_a (op_slice_l rfl rfl rfl (by omega) (by omega)) rfl rfl ?_
  refine XR_wa (opl_copyW st 0 rfl hcut (by simp [hl]) (by simp) (one_bytes _) rfl rfl rfl rfl) rfl rfl rfl ?_
  rintro _ hp ⟨rfl, st⟩
  simp only [List.set_cons_zero, List.set_cons_succ, Nat.mul_one] at st
  rw [Nat.min_eq_right (by omega), show (List.replicate n2 (Value.int IntKind.u8 0)).drop n2 = [] by simp, List.append_nil, ← List.map_take] at st
  refine XR_nil ?_
  refine X_seq ?_
  refine X_reg ?_
  refine XR_a (op_move rfl) rfl rfl ?_
  refine XR_a (op_nilCheck rfl) rfl rfl ?_
  first | refine XR_a (op_field0 rfl rfl) rfl rfl ?_ | refine XR_a (op_fieldn rfl rfl) rfl rfl ?_
  refine XR_a (op_ld (by first | assumption | exact st.cell 0 rfl rfl | exact st.cell 1 rfl rfl | exact st.cell 2 rfl rfl | exact st.cell 3 rfl rfl) rfl rfl rfl) rfl rfl ?_
  refine XR_a (op_move rfl) rfl rfl ?_
  first | refine XR_a (op_addN rfl rfl (by simp only [inK]; omega)) rfl rfl ?_ | refine XR_a (op_addI rfl rfl (by simp only [inK]; omega)) rfl rfl ?_ | refine XR_a (op_add rfl rfl) rfl rfl ?_
  refine XR_a (op_nilCheck rfl) rfl rfl ?_
  first | refine XR_a (op_field0 rfl rfl) rfl rfl ?_ | refine XR_a (op_fieldn rfl rfl) rfl rfl ?_
  refine XR_wn (opl_store_pt st 1 rfl rfl rfl rfl rfl (rfl)) rfl rfl fun _ hp st => ?_
  simp only [List.set_cons_zero, List.set_cons_succ] at st
  refine XR_nil ?_
  refine X_seq ?_
  refine X_reg ?_
  refine XR_a (op_move rfl) rfl rfl ?_
  refine XR_a (op_assign rfl) rfl rfl ?_
  refine XR_nil ?_
  refine X_ret (.cons (.tmp rfl) .nil) ?_
  exact st.perm (List.Perm.swap _ _ _)
theorem fnum_at {B p m c a n : Nat} (a' : Nat) {k : Int} {A : Option Addr} {l : List UInt8} {F : List Res} {h0 : Heap} (st : St B h0 h0 (fdG p A m c a false :: F)) (hr : Rd h0 A (l.map byteV)) (hl : l.length = m) (hm : m ≤ 1099511627776) (ha : a ≤ m) (hg : getF l a k = some n) (ha' : a + wid k = a') :
    Ret Try.prog 57 [.pointer (some ⟨p, 0, none⟩), .int .i64 k] h0 fun v h' => v = .int .u32 (n : Int) ∧ St B h0 h' (fdG p A m c a' false :: F) := by
  have h := fnum_spec (k := k) st hr hl hm ha
  rw [hg] at h
  simp only [Option.isSome_some, if_true, Option.getD_some, Bool.not_true, ha'] at h
  exact h
theorem getF_at {l : List UInt8} {a : Nat} {k : Int} (h : a + wid k ≤ l.length) : getF l (a : Int) k = some (leV ((l.drop a).take (wid k))) := by
  unfold getF
  rw [if_pos (by omega)]; simp
end Go.Bn
end

section
set_option linter.unusedVariables false
set_option linter.unusedSimpArgs false
set_option maxHeartbeats 4000000
set_option maxRecDepth 20000
namespace Go.Bn
open Go Proofs
theorem wid2 : wid 2 = 2 := rfl
theorem fnum_fail {B p m c a : Nat} {k : Int} {A : Option Addr} {l : List UInt8} {F : List Res} {h0 : Heap} (st : St B h0 h0 (fdG p A m c a false :: F)) (hr : Rd h0 A (l.map byteV)) (hl : l.length = m) (hm : m ≤ 1099511627776) (ha : a ≤ m) (hg : getF l a k = none) :
    Ret Try.prog 57 [.pointer (some ⟨p, 0, none⟩), .int .i64 k] h0 fun v h' => v = .int .u32 0 ∧ St B h0 h' (fdG p A m c a true :: F) := by
  have h := fnum_spec (k := k) st hr hl hm ha
  rw [hg] at h
  exact h
theorem getF_short {l : List UInt8} {a : Nat} {k : Int} (h : l.length < a + wid k) : getF l (a : Int) k = none := by
  unfold getF
  rw [if_neg (by omega)]
theorem fbytes_long {B p m c a n : Nat} {A : Option Addr} {F : List Res} {h0 : Heap} (st : St B h0 h0 (fdG p A m c a false :: F)) (hm : m ≤ 1099511627776) (ha : a ≤ m) (hn : m < a + n) :
    Ret Try.prog 58 [.pointer (some ⟨p, 0, none⟩), .int .i64 (n : Int)] h0 fun v h' => v = .slice none 0 0 ∧ St B h0 h' (fdG p A m c a true :: F) := by
  refine ret_of_X Try.func58 rfl rfl fun w0 hw0 => ?_
  simp only [argE, Nat.zero_add, Nat.reduceAdd]
  refine X_seq ?_
  refine X_reg ?_
  refine XR_a (op_assign rfl) rfl rfl ?_
  refine XR_nil ?_
  refine X_seq ?_
  refine X_seq ?_
  refine X_reg ?_
  refine XR_a (op_move rfl) rfl rfl ?_
  refine XR_wa (opl_call (fok_spec (st.cell 0 rfl rfl)) rfl (by kernel_rfl)) rfl rfl rfl ?_
  rintro _ _ ⟨rfl, rfl⟩
  refine XR_a (op_not rfl) rfl rfl ?_
  refine XR_nil ?_
  refine X_else rfl ?_
  refine X_skip ?_
  refine X_seq ?_
  refine X_seq ?_
  refine X_draw byKind (by kernel_rfl) (by kernel_rfl) ?_
  refine XR_a (op_move rfl) rfl rfl ?_
  refine XR_a (op_lss rfl rfl) rfl rfl ?_
  refine XR_as (.bool false) (congrArg Value.bool (decide_eq_false (by omega))) ?_
  refine XR_a (op_move rfl) rfl rfl ?_
  refine XR_a (op_move rfl) rfl rfl ?_
  refine XR_a (op_move rfl) rfl rfl ?_
  refine XR_a (op_nilCheck rfl) rfl rfl ?_
  first | refine XR_a (op_field0 rfl rfl) rfl rfl ?_ | refine XR_a (op_fieldn rfl rfl) rfl rfl ?_
  refine XR_a (op_ld (by first | assumption | exact st.cell 0 rfl rfl | exact st.cell 1 rfl rfl | exact st.cell 2 rfl rfl | exact st.cell 3 rfl rfl) rfl rfl rfl) rfl rfl ?_
  refine XR_a (op_len rfl rfl rfl) rfl rfl ?_
  refine XR_a (op_move rfl) rfl rfl ?_
  refine XR_a (op_nilCheck rfl) rfl rfl ?_
  first | refine XR_a (op_field0 rfl rfl) rfl rfl ?_ | refine XR_a (op_fieldn rfl rfl) rfl rfl ?_
  refine XR_a (op_ld (by first | assumption | exact st.cell 0 rfl rfl | exact st.cell 1 rfl rfl | exact st.cell 2 rfl rfl | exact st.cell 3 rfl rfl) rfl rfl rfl) rfl rfl ?_
  first | refine XR_a (op_subN rfl rfl (by omega) (by simp only [inK]; omega)) rfl rfl ?_ | refine XR_a (op_subI rfl rfl (by simp only [inK]; omega)) rfl rfl ?_ | refine XR_a (op_sub rfl rfl) rfl rfl ?_
  refine XR_a (op_gtr rfl rfl) rfl rfl ?_
  refine XR_as (.bool true) (congrArg Value.bool (decide_eq_true (by omega))) ?_
  refine XR_a (op_pick_f rfl rfl) rfl rfl ?_
  refine XR_nil ?_
  refine X_then rfl ?_
  refine X_seq ?_
  refine X_reg ?_
  refine XR_a (op_move rfl) rfl rfl ?_
  refine XR_a (op_nilCheck rfl) rfl rfl ?_
  first | refine XR_a (op_field0 rfl rfl) rfl rfl ?_ | refine XR_a (op_fieldn rfl rfl) rfl rfl ?_
  refine XR_wn (opl_store_pt st 0 rfl rfl rfl rfl rfl (rfl)) rfl rfl fun _ hp st => ?_
  simp only [List.set_cons_zero, List.set_cons_succ] at st
  refine XR_nil ?_
  refine X_seq ?_
  refine X_reg ?_
  refine XR_a (op_assign rfl) rfl rfl ?_
  refine XR_nil ?_
  refine X_ret (.cons (.tmp rfl) .nil) ?_
  exact ⟨rfl, st⟩
end Go.Bn
end

section
set_option linter.unusedVariables false
set_option linter.unusedSimpArgs false
set_option maxHeartbeats 4000000
set_option maxRecDepth 20000
namespace Go.Bn
open Go Proofs
@[reducible] def pkG (pk q t1 t2 size : Nat) : Res := pt pk 144 [.pointer (some ⟨q, 0, none⟩), .pointer (some ⟨t1, 0, none⟩), .pointer (some ⟨t2, 0, none⟩), nV size]
theorem hql_of {ls : List Nat} (hok : lensOK ls) : (qcodes ls).length ≤ 1000 := Nat.le_trans (codesTo_len _ _) (Nat.le_trans hok.2.1 (by omega))
theorem pclass_spec {B pk q t t1 t2 size m c a fr : Nat} {A : Option Addr} {l : List UInt8} {ls : List Nat} {F : List Res} {h0 : Heap} (st0 : St B h0 h0 (rdG q A m c a :: tabR t (qcodes ls) 9 :: pkG pk q t1 t2 size :: F)) (hok : lensOK ls) (hrB : ∀ h', Low B h0 h' → Rd h' A (l.map byteV)) (hl : l.length = m) (hm : m ≤ 1073741824) (ha : a ≤ 8 * m) (hfr : ls.length ≤ fr + 30) (hfr2 : fr ≤ 300) :
    Ret Try.prog 213 [.pointer (some ⟨pk, 0, none⟩), .pointer (some ⟨t, 0, none⟩), nV fr] h0
      fun v h' => v = retVal [.agg (clsV (clsT ls fr (bitsB l) a).1).toArray, nV (clsT ls fr (bitsB l) a).2.2] ∧ St B h0 h' (rdG q A m c (clsT ls fr (bitsB l) a).2.1 :: tabR t (qcodes ls) 9 :: pkG pk q t1 t2 size :: F) := by
  have hbl := bitsB_length l
  have hsm := takeC_small hok ((bitsB l).drop a)
  have hle := takeC_le ls ((bitsB l).drop a)
  have hsy := takeC_sym hok (bs := (bitsB l).drop a)
  rw [List.length_drop, hbl, hl] at hle
  obtain ⟨T, hT⟩ : ∃ T, takeC ls ((bitsB l).drop a) = T := ⟨_, rfl⟩
  rw [hT] at hsm hle hsy
  obtain ⟨C, hCe⟩ : ∃ C, clsT ls fr (bitsB l) a = C := ⟨_, rfl⟩
  rw [show clsT ls fr (bitsB l) a = C from hCe]
  unfold clsT at hCe
  rw [hT] at hCe
  rw [hbl, hl] at hCe
  have hok2 := hok.2.1
  refine ret_of_X Try.func213 rfl rfl fun w0 hw0 => ?_
  simp only [argE, Nat.zero_add, Nat.reduceAdd]
  have st := st0
  refine X_seq ?_
  refine X_reg ?_
  refine XR_wa (opl_new rfl) rfl rfl rfl ?_
  rintro _ hp ⟨p6, rfl, hnew⟩
  replace st := st.new hnew
  replace st : St B h0 hp ([pt p6 120 (clsV Kls.nil), rdG q A m c a, tabR t (qcodes ls) 9, pkG pk q t1 t2 size] ++ F) := st
  replace st := St.reF _ 4 st [1, 2, 3, 0] (by decide)
  simp only [List.map_cons, List.map_nil, getR, List.cons_append, List.nil_append] at st
  refine XR_a (op_assign rfl) rfl rfl ?_
  refine XR_nil ?_
  refine X_seq ?_
  refine X_reg ?_
  refine XR_a (op_move rfl) rfl rfl ?_
  refine XR_a (op_move rfl) rfl rfl ?_
  refine XR_a (op_nilCheck rfl) rfl rfl ?_
  first | refine XR_a (op_field0 rfl rfl) rfl rfl ?_ | refine XR_a (op_fieldn rfl rfl) rfl rfl ?_
  refine XR_a (op_ld (st.cell 2 (i := 0) rfl rfl) rfl rfl rfl) rfl rfl ?_
  refine XR_wa (opl_call (qtake_spec st.here (qcodes_ok hok) (by omega) (hql_of hok) (hrB _ st.low) hl (by omega) ha) rfl (by kernel_rfl)) rfl rfl rfl ?_
  rintro _ hp ⟨rfl, st2⟩
  rw [takeQ_C hok, hT] at st2 ⊢
  replace st := st.trans st2
  clear st2
  refine XR_a (op_move rfl) rfl rfl ?_
  refine XR_a (op_extract rfl rfl) rfl rfl ?_
  refine XR_a (op_extract rfl rfl) rfl rfl ?_
  refine XR_a (op_assign rfl) rfl rfl ?_
  refine XR_a (op_assign rfl) rfl rfl ?_
  refine XR_nil ?_
  refine X_seq ?_
  refine X_seq ?_
  refine X_reg ?_
  refine XR_a (op_move rfl) rfl rfl ?_
  refine XR_a (op_neq rfl rfl) rfl rfl ?_
  refine XR_a (op_move rfl) rfl rfl ?_
  refine XR_if 26 rfl (fun h => ?_) (fun h => ?_)
  · rw [if_pos (by omega)] at hCe
    subst hCe
    refine XR_no rfl rfl ?_
    refine XR_no rfl rfl ?_
    refine XR_no rfl rfl ?_
    refine XR_a (op_pick_t rfl rfl) rfl rfl ?_
    refine XR_nil ?_
    refine X_then rfl ?_
    refine X_seq ?_
    refine X_reg ?_
    refine XR_a (op_move rfl) rfl rfl ?_
    refine XR_a (op_build (ps := [(0, nV T.1)]) (cs := (clsV ⟨T.1, 0, 0⟩).toArray) rfl rfl) rfl rfl ?_
    refine XR_a (op_move rfl) rfl rfl ?_
    refine XR_wn (opl_store_whole (us := clsV ⟨T.1, 0, 0⟩) st 3 rfl rfl rfl rfl rfl (clsV_one _) rfl) rfl rfl fun _ hp st => ?_
    simp only [List.set_cons_zero, List.set_cons_succ] at st
    refine XR_a (op_assign rfl) rfl rfl ?_
    refine XR_nil ?_
    refine X_ret (.cons (RV_agg (vs := clsV _) rfl rfl rfl (st.cells 3 rfl)) (.cons (.tmp rfl) .nil)) ?_
    exact ⟨rfl, (St.reF [_, _, _, _] 4 st [3, 0, 1, 2] (by decide)).tail⟩
  · refine XR_a (op_move rfl) rfl rfl ?_
    refine XR_a (op_move rfl) rfl rfl ?_
    refine XR_a (op_lss rfl rfl) rfl rfl ?_
    refine XR_a (op_pick_f rfl rfl) rfl rfl ?_
    refine XR_nil ?_
    refine X_if rfl (fun h => ?_) (fun h => ?_)
    · rw [if_pos (by omega)] at hCe
      subst hCe
      refine X_seq ?_
      refine X_reg ?_
      refine XR_a (op_move rfl) rfl rfl ?_
      refine XR_a (op_build (ps := [(0, nV T.1)]) (cs := (clsV ⟨T.1, 0, 0⟩).toArray) rfl rfl) rfl rfl ?_
      refine XR_a (op_move rfl) rfl rfl ?_
      refine XR_wn (opl_store_whole (us := clsV ⟨T.1, 0, 0⟩) st 3 rfl rfl rfl rfl rfl (clsV_one _) rfl) rfl rfl fun _ hp st => ?_
      simp only [List.set_cons_zero, List.set_cons_succ] at st
      refine XR_a (op_assign rfl) rfl rfl ?_
      refine XR_nil ?_
      refine X_ret (.cons (RV_agg (vs := clsV _) rfl rfl rfl (st.cells 3 rfl)) (.cons (.tmp rfl) .nil)) ?_
      exact ⟨rfl, (St.reF [_, _, _, _] 4 st [3, 0, 1, 2] (by decide)).tail⟩
    · have hT0 : T.2.2 = 0 := by omega
      have hTl : T.1 < ls.length := (hsy hT0).1
      have hbc : bitsC (T.1 - fr) ≤ 13 := by unfold bitsC; split <;> omega
      rw [if_neg (by omega)] at hCe
      have hwd : wd 32 ((bitsC (T.1 - fr) : Nat) : Int) = bitsC (T.1 - fr) := wd_nat (by omega)
      refine X_skip ?_
      refine X_seq ?_
      refine X_reg ?_
      refine XR_a (op_move rfl) rfl rfl ?_
      refine XR_a (op_move rfl) rfl rfl ?_
      first | refine XR_a (op_subN rfl rfl (by omega) (by simp only [inK]; omega)) rfl rfl ?_ | refine XR_a (op_subI rfl rfl (by simp only [inK]; omega)) rfl rfl ?_ | refine XR_a (op_sub rfl rfl) rfl rfl ?_
      refine XR_wa (opl_call (sbase_yes (i := T.1 - fr) (by omega) (by omega) _) rfl (by kernel_rfl)) rfl rfl rfl ?_
      rintro _ _ ⟨rfl, rfl⟩
      refine XR_a (op_move rfl) rfl rfl ?_
      refine XR_a (op_extract rfl rfl) rfl rfl ?_
      refine XR_a (op_extract rfl rfl) rfl rfl ?_
      refine XR_a (op_extract rfl rfl) rfl rfl ?_
      refine XR_a (op_assign rfl) rfl rfl ?_
      refine XR_a (op_assign rfl) rfl rfl ?_
      refine XR_a (op_assign rfl) rfl rfl ?_
      refine XR_nil ?_
      refine X_seq ?_
      refine X_reg ?_
      refine XR_a (op_move rfl) rfl rfl ?_
      refine XR_a (op_nilCheck rfl) rfl rfl ?_
      first | refine XR_a (op_field0 rfl rfl) rfl rfl ?_ | refine XR_a (op_fieldn rfl rfl) rfl rfl ?_
      refine XR_a (op_ld (st.cell 2 (i := 0) rfl rfl) rfl rfl rfl) rfl rfl ?_
      refine XR_a (op_move rfl) rfl rfl ?_
      refine XR_wa (opl_call (rtake_spec (k := ((bitsC (T.1 - fr) : Nat) : Int)) st.here (hrB _ st.low) hl (by omega) (by omega)) rfl (by kernel_rfl)) rfl rfl rfl ?_
      rintro _ hp ⟨rfl, st2⟩
      rw [hwd] at st2 ⊢
      replace st := st.trans st2
      clear st2
      refine XR_a (op_move rfl) rfl rfl ?_
      refine XR_a (op_extract rfl rfl) rfl rfl ?_
      refine XR_a (op_extract rfl rfl) rfl rfl ?_
      refine XR_a (op_assign rfl) rfl rfl ?_
      refine XR_a (op_assign rfl) rfl rfl ?_
      refine XR_nil ?_
      refine X_seq ?_
      refine X_seq ?_
      refine X_reg ?_
      refine XR_a (op_move rfl) rfl rfl ?_
      first | refine XR_a (op_notd rfl) rfl rfl ?_ | refine XR_a (op_not rfl) rfl rfl ?_
      refine XR_nil ?_
      refine X_if rfl (fun h => ?_) (fun h => ?_)
      · have hn : ¬ bitsC (T.1 - fr) ≤ 8 * m - (a + T.2.1) := by simpa using h
        rw [if_neg hn] at st
        rw [if_pos (by omega)] at hCe
        subst hCe
        refine X_seq ?_
        refine X_reg ?_
        refine XR_a (op_build (ps := []) (cs := (clsV Kls.nil).toArray) rfl rfl) rfl rfl ?_
        refine XR_wn (opl_store_whole (us := clsV Kls.nil) st 3 rfl rfl rfl rfl rfl (clsV_one _) rfl) rfl rfl fun _ hp st => ?_
        simp only [List.set_cons_zero, List.set_cons_succ] at st
        refine XR_a (op_assign rfl) rfl rfl ?_
        refine XR_nil ?_
        refine X_ret (.cons (RV_agg (vs := clsV _) rfl rfl rfl (st.cells 3 rfl)) (.cons (.tmp rfl) .nil)) ?_
        exact ⟨rfl, (St.reF [_, _, _, _] 4 st [3, 0, 1, 2] (by decide)).tail⟩
      · have hn : bitsC (T.1 - fr) ≤ 8 * m - (a + T.2.1) := by simpa using h
        rw [if_pos hn] at st
        rw [if_neg (by omega)] at hCe
        subst hCe
        have hnl := numB_lt (bitsB l) (a + T.2.1) (bitsC (T.1 - fr))
        refine X_skip ?_
        refine X_seq ?_
        refine X_reg ?_
        refine XR_a (op_move rfl) rfl rfl ?_
        refine XR_a (op_move rfl) rfl rfl ?_
        refine XR_a (op_move rfl) rfl rfl ?_
        refine XR_a (op_build (ps := [(0, nV T.1), (1, nV (bitsC (T.1 - fr))), (2, .int .u32 ((numB (bitsB l) (a + T.2.1) (bitsC (T.1 - fr)) : Nat) : Int))]) (cs := (clsV ⟨T.1, bitsC (T.1 - fr), (numB (bitsB l) (a + T.2.1) (bitsC (T.1 - fr)) : Nat)⟩).toArray) (by rw [if_pos hn]; rfl) rfl) rfl rfl ?_
        refine XR_wn (opl_store_whole (us := clsV ⟨T.1, bitsC (T.1 - fr), (numB (bitsB l) (a + T.2.1) (bitsC (T.1 - fr)) : Nat)⟩) st 3 rfl rfl rfl rfl rfl (clsV_one _) rfl) rfl rfl fun _ hp st => ?_
        simp only [List.set_cons_zero, List.set_cons_succ] at st
        refine XR_a (op_assign rfl) rfl rfl ?_
        refine XR_nil ?_
        refine X_ret (.cons (RV_agg (vs := clsV _) rfl rfl rfl (st.cells 3 rfl)) (.cons (.tmp rfl) .nil)) ?_
        exact ⟨rfl, (St.reF [_, _, _, _] 4 st [3, 0, 1, 2] (by decide)).tail⟩
theorem pend_spec {B pk q t1 t2 size m c a so : Nat} {A : Option Addr} {l : List UInt8} {F : List Res} {hb h0 : Heap} (st : St B hb h0 (rdG q A m c a :: pkG pk q t1 t2 size :: F)) (hr : Rd h0 A (l.map byteV)) (hl : l.length = m) (hm : m ≤ 1073741824) (ha : a ≤ 8 * m) :
    Ret Try.prog 211 [.pointer (some ⟨pk, 0, none⟩), nV so] h0 fun v h' => v = nV (endE (bitsB l) size a so) ∧ h0 = h' := by
  have hbl := bitsB_length l
  obtain ⟨X, hX⟩ : ∃ X, endE (bitsB l) size a so = X := ⟨_, rfl⟩
  rw [hX]
  unfold endE at hX
  rw [hbl, hl] at hX
  have hw8 : wd 32 8 = 8 := rfl
  refine ret_of_X Try.func211 rfl rfl fun w0 hw0 => ?_
  simp only [argE, Nat.zero_add, Nat.reduceAdd]
  refine X_seq ?_
  refine X_reg ?_
  refine XR_a (op_assign rfl) rfl rfl ?_
  refine XR_nil ?_
  refine X_seq ?_
  refine X_block ?_
  refine X_seq ?_
  refine X_reg ?_
  refine XR_a (op_move rfl) rfl rfl ?_
  refine XR_a (op_move rfl) rfl rfl ?_
  refine XR_a (op_nilCheck rfl) rfl rfl ?_
  first | refine XR_a (op_field0 rfl rfl) rfl rfl ?_ | refine XR_a (op_fieldn rfl rfl) rfl rfl ?_
  refine XR_a (op_ld (st.cell 1 (i := 3) rfl rfl) rfl rfl rfl) rfl rfl ?_
  refine XR_a (op_lss rfl rfl) rfl rfl ?_
  refine XR_a (op_assign rfl) rfl rfl ?_
  refine XR_nil ?_
  refine X_if rfl (fun h => ?_) (fun h => ?_)
  · refine X_seq ?_
    refine X_reg ?_
    refine XR_a (op_assign rfl) rfl rfl ?_
    refine XR_nil ?_
    refine X_ret (.cons (.tmp rfl) .nil) ?_
    rw [if_pos (by omega)] at hX
    subst hX
    exact ⟨rfl, rfl⟩
  · refine X_seq ?_
    refine X_reg ?_
    refine XR_a (op_move rfl) rfl rfl ?_
    refine XR_a (op_nilCheck rfl) rfl rfl ?_
    first | refine XR_a (op_field0 rfl rfl) rfl rfl ?_ | refine XR_a (op_fieldn rfl rfl) rfl rfl ?_
    refine XR_a (op_ld (st.cell 1 (i := 0) rfl rfl) rfl rfl rfl) rfl rfl ?_
    refine XR_wa (opl_call (rleft_spec (st.cell 0 rfl rfl) (st.cell 0 rfl rfl) (by omega) ha) rfl (by kernel_rfl)) rfl rfl rfl ?_
    rintro _ _ ⟨rfl, rfl⟩
    refine XR_a (op_geq rfl rfl) rfl rfl ?_
    refine XR_a (op_move rfl) rfl rfl ?_
    refine XR_if 19 rfl (fun h => ?_) (fun h => ?_)
    · refine XR_no rfl rfl ?_
      refine XR_no rfl rfl ?_
      refine XR_no rfl rfl ?_
      refine XR_no rfl rfl ?_
      refine XR_no rfl rfl ?_
      refine XR_no rfl rfl ?_
      refine XR_a (op_pick_t rfl rfl) rfl rfl ?_
      refine XR_a (op_assign rfl) rfl rfl ?_
      refine XR_nil ?_
      refine X_then rfl ?_
      refine X_seq ?_
      refine X_reg ?_
      refine XR_a (op_assign rfl) rfl rfl ?_
      refine XR_nil ?_
      refine X_ret (.cons (.tmp rfl) .nil) ?_
      rw [if_neg (by omega), if_pos (by omega)] at hX
      subst hX
      exact ⟨rfl, rfl⟩
    · refine XR_a (op_move rfl) rfl rfl ?_
      refine XR_a (op_nilCheck rfl) rfl rfl ?_
      first | refine XR_a (op_field0 rfl rfl) rfl rfl ?_ | refine XR_a (op_fieldn rfl rfl) rfl rfl ?_
      refine XR_a (op_ld (st.cell 1 (i := 0) rfl rfl) rfl rfl rfl) rfl rfl ?_
      refine XR_wa (opl_call (rpeek_spec (k := 8) (st.cell 0 rfl rfl) (st.cell 0 rfl rfl) hr hl (by omega) ha) rfl (by kernel_rfl)) rfl rfl rfl ?_
      rintro _ _ ⟨rfl, rfl⟩
      rw [hw8]
      refine XR_a (op_neq rfl rfl) rfl rfl ?_
      refine XR_a (op_pick_f rfl rfl) rfl rfl ?_
      refine XR_a (op_assign rfl) rfl rfl ?_
      refine XR_nil ?_
      refine X_if rfl (fun h => ?_) (fun h => ?_)
      · refine X_seq ?_
        refine X_reg ?_
        refine XR_a (op_assign rfl) rfl rfl ?_
        refine XR_nil ?_
        refine X_ret (.cons (.tmp rfl) .nil) ?_
        rw [if_neg (by omega), if_pos (by omega)] at hX
        subst hX
        exact ⟨rfl, rfl⟩
      · refine X_skip ?_
        refine X_blk ?_
        refine X_seq ?_
        refine X_reg ?_
        refine XR_a (op_assign rfl) rfl rfl ?_
        refine XR_nil ?_
        refine X_ret (.cons (.tmp rfl) .nil) ?_
        rw [if_neg (by omega), if_neg (by omega)] at hX
        subst hX
        exact ⟨rfl, rfl⟩
theorem ptoken_spec {B pk q t1 t2 size : Nat} {t : Tok} {v : Value} {out : List UInt8} {F : List Res} {h0 : Heap} (st0 : St B h0 h0 (row 5 1 v (out.map byteV) :: pkG pk q t1 t2 size :: F)) (hs : size ≤ 1048576) (ho : out.length ≤ size) (ht : t.right) (hb : 0 ≤ t.byte ∧ t.byte < 256) :
    Ret Try.prog 214 [.pointer (some ⟨pk, 0, none⟩), v, .agg (tokV t).toArray] h0
      fun u h' => ∃ v', ((out.length : Int) < t.dist ∧ u = retVal [v', nV 3] ∧ St B h0 h' (row 5 1 v' (out.map byteV) :: pkG pk q t1 t2 size :: F)) ∨
        (¬ (out.length : Int) < t.dist ∧ size - out.length < t.size ∧ u = retVal [v', nV 5] ∧ St B h0 h' (row 5 1 v' (out.map byteV) :: pkG pk q t1 t2 size :: F)) ∨
        (¬ (out.length : Int) < t.dist ∧ ¬ size - out.length < t.size ∧ u = retVal [v', nV 0] ∧ St B h0 h' (row 5 1 v' ((expT t out).map byteV) :: pkG pk q t1 t2 size :: F)) := by
  obtain ⟨hs1, hs2, hs3⟩ := Tok.size_le ht
  have htr := ht
  unfold Tok.right at htr
  refine ret_of_X Try.func214 rfl rfl fun w0 hw0 => ?_
  simp only [argE, Nat.zero_add, Nat.reduceAdd]
  have st := st0
  obtain ⟨A1, n1, c1, rfl, hl1, hc1, _⟩ := st.row 0 rfl
  have hl1 : out.length = n1 := by simpa using hl1
  refine X_seq ?_
  refine X_reg ?_
  refine XR_wa (opl_bx (cs := tokV t) rfl rfl) rfl rfl rfl ?_
  rintro _ hp ⟨p5, rfl, hnew⟩
  replace st := st.new hnew
  refine XR_a (op_assign rfl) rfl rfl ?_
  refine XR_a (op_assign rfl) rfl rfl ?_
  refine XR_nil ?_
  refine X_seq ?_
  refine X_block ?_
  refine X_seq ?_
  refine X_reg ?_
  first | refine XR_a (op_field0 rfl rfl) rfl rfl ?_ | refine XR_a (op_fieldn rfl rfl) rfl rfl ?_
  refine XR_a (op_ld (st.cell 0 (i := 2) rfl rfl) rfl rfl rfl) rfl rfl ?_
  refine XR_a (op_move rfl) rfl rfl ?_
  refine XR_a (op_len rfl rfl rfl) rfl rfl ?_
  refine XR_a (op_gtr rfl rfl) rfl rfl ?_
  refine XR_a (op_assign rfl) rfl rfl ?_
  refine XR_nil ?_
  refine X_if rfl (fun h => ?_) (fun h => ?_)
  · refine X_seq ?_
    refine X_reg ?_
    refine XR_a (op_move rfl) rfl rfl ?_
    refine XR_a (op_assign rfl) rfl rfl ?_
    refine XR_a (op_assign rfl) rfl rfl ?_
    refine XR_nil ?_
    refine X_ret (.cons (.tmp rfl) (.cons (.tmp rfl) .nil)) ?_
    exact ⟨_, .inl ⟨by omega, rfl, st.tail⟩⟩
  · refine X_seq ?_
    refine X_draw byKind (by kernel_rfl) (by kernel_rfl) ?_
    first | refine XR_a (op_field0 rfl rfl) rfl rfl ?_ | refine XR_a (op_fieldn rfl rfl) rfl rfl ?_
    refine XR_a (op_ld (st.cell 0 (i := 1) rfl rfl) rfl rfl rfl) rfl rfl ?_
    refine XR_a (op_max2 rfl rfl) rfl rfl ?_
    refine XR_a (op_move rfl) rfl rfl ?_
    refine XR_a (op_nilCheck rfl) rfl rfl ?_
    first | refine XR_a (op_field0 rfl rfl) rfl rfl ?_ | refine XR_a (op_fieldn rfl rfl) rfl rfl ?_
    refine XR_a (op_ld (st.cell 2 (i := 3) rfl rfl) rfl rfl rfl) rfl rfl ?_
    refine XR_a (op_move rfl) rfl rfl ?_
    refine XR_a (op_len rfl rfl rfl) rfl rfl ?_
    refine XR_a (op_subI rfl rfl (by simp only [inK]; omega)) rfl rfl ?_
    refine XR_a (op_gtr rfl rfl) rfl rfl ?_
    refine XR_a (op_assign rfl) rfl rfl ?_
    refine XR_nil ?_
    refine X_if rfl (fun h => ?_) (fun h => ?_)
    · refine X_seq ?_
      refine X_reg ?_
      refine XR_a (op_move rfl) rfl rfl ?_
      refine XR_a (op_assign rfl) rfl rfl ?_
      refine XR_a (op_assign rfl) rfl rfl ?_
      refine XR_nil ?_
      refine X_ret (.cons (.tmp rfl) (.cons (.tmp rfl) .nil)) ?_
      exact ⟨_, .inr (.inl ⟨by omega, by omega, rfl, st.tail⟩)⟩
    · refine X_seq ?_
      refine X_reg ?_
      first | refine XR_a (op_field0 rfl rfl) rfl rfl ?_ | refine XR_a (op_fieldn rfl rfl) rfl rfl ?_
      refine XR_a (op_ld (st.cell 0 (i := 1) rfl rfl) rfl rfl rfl) rfl rfl ?_
      refine XR_a (op_eql rfl rfl) rfl rfl ?_
      refine XR_a (op_assign rfl) rfl rfl ?_
      refine XR_nil ?_
      refine X_if rfl (fun h => ?_) (fun h => ?_)
      · refine X_seq ?_
        refine X_reg ?_
        refine XR_a (op_move rfl) rfl rfl ?_
        first | refine XR_a (op_field0 rfl rfl) rfl rfl ?_ | refine XR_a (op_fieldn rfl rfl) rfl rfl ?_
        refine XR_a (op_ld (st.cell 0 (i := 0) rfl rfl) rfl rfl rfl) rfl rfl ?_
        refine XR_wa (opl_var1 rfl rfl rfl) rfl rfl rfl ?_
        rintro _ hp ⟨A, rfl, hx, hrd⟩
        have st := st.ext hx
        refine XR_wa (opl_append st 1 rfl (hrd) (rfl) (by intro u hu; simp at hu; subst hu; rfl) (by simp; omega) rfl rfl rfl rfl rfl rfl rfl) rfl rfl rfl fun v hp st => ?_
        simp only [List.set_cons_zero, List.set_cons_succ] at st
        refine XR_a (op_assign rfl) rfl rfl ?_
        refine XR_a (op_assign rfl) rfl rfl ?_
        refine XR_nil ?_
        refine X_ret (.cons (.tmp rfl) (.cons (.tmp rfl) .nil)) ?_
        have e1 : [Value.int .u8 t.byte] = [UInt8.ofNat t.byte.toNat].map byteV := by
          rw [List.map_cons, List.map_nil]
          unfold byteV
          rw [UInt8.toNat_ofNat', Nat.mod_eq_of_lt (by omega), Int.toNat_of_nonneg hb.1]
        rw [e1, ← List.map_append, show out ++ [UInt8.ofNat t.byte.toNat] = expT t out by unfold expT; rw [if_pos (by omega)]] at st
        exact ⟨_, .inr (.inr ⟨by omega, by omega, rfl, st.tail⟩)⟩
      · refine X_skip ?_
        refine X_blk ?_
        refine X_seq ?_
        refine X_seq ?_
        refine X_reg ?_
        first | refine XR_a (op_field0 rfl rfl) rfl rfl ?_ | refine XR_a (op_fieldn rfl rfl) rfl rfl ?_
        refine XR_a (op_ld (st.cell 0 (i := 1) rfl rfl) rfl rfl rfl) rfl rfl ?_
        refine XR_a (op_move rfl) rfl rfl ?_
        refine XR_nil ?_
        refine X_block ?_
        have hl0 : ¬ t.len = 0 := by omega
        rw [if_neg hl0] at htr
        have hex : expT t out = copyT t.len.toNat t.dist.toNat out := by unfold expT; rw [if_neg hl0]
        refine X_loop (fun s => t.len.toNat - s.1) (fun s => [(0, .pointer (some ⟨pk, 0, none⟩)), (1, s.2.1), (5, .pointer (some ⟨p5, 0, none⟩)), (38, .int .i64 t.len), (39, nV s.1)])
          (fun (s : Nat × Value × List UInt8) hp => s.1 ≤ t.len.toNat ∧ s.2.2.length = n1 + s.1 ∧ copyT (t.len.toNat - s.1) t.dist.toNat s.2.2 = expT t out ∧ St B h0 hp (pt p5 104 (tokV t) :: row 5 1 s.2.1 (s.2.2.map byteV) :: pkG pk q t1 t2 size :: F))
          (0, _, out) (.cons rfl (.cons rfl (.cons rfl (.cons rfl (.cons rfl (.nil _)))))) ⟨Nat.zero_le _, hl1, by rw [hex]; rfl, st⟩ ?_
        clear st
        rintro ⟨i, v, o2⟩ hp ⟨hi, hlo, hcp, st⟩
        simp only at hi hlo hcp st ⊢
        obtain ⟨A2, n2, c2, rfl, hl2, hc2, _, hrd2⟩ := st.row 1 rfl
        have hl2 : o2.length = n2 := by simpa using hl2
        refine X_seq ?_
        refine X_reg ?_
        refine XR_a (op_lss rfl rfl) rfl rfl ?_
        refine XR_nil ?_
        refine X_seq ?_
        refine X_if rfl (fun h => ?_) (fun h => ?_)
        · obtain ⟨j, hj⟩ : ∃ j, t.len.toNat - i = j + 1 := ⟨t.len.toNat - i - 1, by omega⟩
          rw [hj, copyT] at hcp
          obtain ⟨x, hx⟩ : ∃ x, o2.length - t.dist.toNat = x := ⟨_, rfl⟩
          rw [hx] at hcp
          have hxl : x < o2.length := by omega
          obtain ⟨g2, g3, rfl, hcell⟩ := hrd2.at_ (by rw [List.length_map]; omega)
          have hcx := hcell x (byteV o2[x]) (by simp [hxl])
          rw [show o2.getD x 0 = o2[x] by simp [List.getD, hxl]] at hcp
          refine X_skip ?_
          refine X_seq ?_
          refine X_block ?_
          refine X_reg ?_
          refine XR_a (op_move rfl) rfl rfl ?_
          refine XR_a (op_move rfl) rfl rfl ?_
          refine XR_a (op_move rfl) rfl rfl ?_
          refine XR_a (op_len rfl rfl rfl) rfl rfl ?_
          first | refine XR_a (op_field0 rfl rfl) rfl rfl ?_ | refine XR_a (op_fieldn rfl rfl) rfl rfl ?_
          refine XR_a (op_ld (st.cell 0 (i := 2) rfl rfl) rfl rfl rfl) rfl rfl ?_
          refine XR_a (op_subI rfl rfl (by simp only [inK]; omega)) rfl rfl ?_
          refine XR_as (nV x) (congrArg (Value.int .i64) (by omega)) ?_
          refine XR_a (op_index1 (i := x) rfl rfl rfl (by omega)) rfl rfl ?_
          refine XR_a (op_ld (hcx) rfl rfl rfl) rfl rfl ?_
          refine XR_wa (opl_var1 rfl rfl rfl) rfl rfl rfl ?_
          rintro _ hp ⟨A, rfl, hx, hrd⟩
          have st := st.ext hx
          refine XR_wa (opl_append st 1 rfl (hrd) (rfl) (by intro u hu; simp at hu; subst hu; rfl) (by simp; omega) rfl rfl rfl rfl rfl rfl rfl) rfl rfl rfl fun v hp st => ?_
          simp only [List.set_cons_zero, List.set_cons_succ] at st
          rw [show [byteV o2[x]] = [o2[x]].map byteV from rfl, ← List.map_append] at st
          refine XR_a (op_assign rfl) rfl rfl ?_
          refine XR_nil ?_
          refine X_blk ?_
          refine X_reg ?_
          first | refine XR_a (op_addN (n := 1) rfl rfl (by simp only [inK]; omega)) rfl rfl ?_ | refine XR_a (op_addI rfl rfl (by simp only [inK]; omega)) rfl rfl ?_ | refine XR_a (op_add rfl rfl) rfl rfl ?_
          refine XR_a (op_move rfl) rfl rfl ?_
          refine XR_nil ?_
          refine X_again (i + 1, _, o2 ++ [o2[x]]) (.cons rfl (.cons rfl (.cons rfl (.cons rfl (.cons rfl (.nil _)))))) ⟨by simp only; omega, by simp; omega, ?_, st⟩ (by simp only; omega)
          simp only
          rw [show t.len.toNat - (i + 1) = j by omega]
          exact hcp
        · refine X_exit rfl ?_
          refine X_seq ?_
          refine X_reg ?_
          refine XR_a (op_move rfl) rfl rfl ?_
          refine XR_a (op_assign rfl) rfl rfl ?_
          refine XR_a (op_assign rfl) rfl rfl ?_
          refine XR_nil ?_
          refine X_ret (.cons (.tmp rfl) (.cons (.tmp rfl) .nil)) ?_
          rw [show t.len.toNat - i = 0 by omega, copyT] at hcp
          rw [hcp] at st
          exact ⟨_, .inr (.inr ⟨by omega, by omega, rfl, st.tail⟩)⟩
end Go.Bn
end
