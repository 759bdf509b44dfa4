/- The contracts of a table's methods. -/
import Derived.Test.YtnphdfaihpljlaaQuick3
import Derived.Test.YtnphdfaihpljlaaEqF
import Derived.Test.YtnphdfaihpljlaaAlt
import Derived.Test.YtnphdfaihpljlaaBitsR
set_option linter.unusedVariables false
set_option linter.unusedSimpArgs false
set_option maxHeartbeats 4000000
set_option maxRecDepth 20000
namespace Go.Bn
open Go Proofs

theorem qwidth_spec {B p w : Nat} {Q : List QC} {F : List Res} {hb h0 : Heap} (st : St B hb h0 (tabR p Q w :: F)) :
    Ret Try.prog 38 [.pointer (some ⟨p, 0, none⟩)] h0 fun v h' => v = .int .i64 (w : Nat) ∧ h0 = h' := by
  obtain ⟨vr, pm, vc, D, hd, so⟩ := st.tab
  refine ret_of_X Try.func38 rfl rfl fun w0 hw0 => ?_
  simp only [argE, Nat.zero_add, Nat.reduceAdd]
  refine X_seq ?_
  refine X_reg ?_
  refine XR_a (op_assign rfl) rfl rfl ?_
  refine XR_nil ?_
  refine X_seq ?_
  refine X_seq ?_
  refine X_reg ?_
  refine XR_a (op_move rfl) rfl rfl ?_
  refine XR_a (op_ptr_nil rfl rfl rfl) rfl rfl ?_
  refine XR_nil ?_
  refine X_else rfl ?_
  refine X_skip ?_
  refine X_seq ?_
  refine X_reg ?_
  refine XR_a (op_move rfl) rfl rfl ?_
  refine XR_a (op_nilCheck rfl) rfl rfl ?_
  first | refine XR_a (op_field0 rfl rfl) rfl rfl ?_ | refine XR_a (op_fieldn rfl rfl) rfl rfl ?_
  refine XR_a (op_ld (so.cell 0 (i := 0) rfl rfl) rfl rfl rfl) rfl rfl ?_
  refine XR_a (op_assign rfl) rfl rfl ?_
  refine XR_nil ?_
  refine X_ret (.cons (.tmp rfl) .nil) ?_
  exact ⟨rfl, rfl⟩
theorem qwidth_none (h0 : Heap) : Ret Try.prog 38 [.pointer none] h0 fun v h' => v = .int .i64 0 ∧ h0 = h' := by
  refine ret_of_X Try.func38 rfl rfl fun w0 hw0 => ?_
  simp only [argE, Nat.zero_add, Nat.reduceAdd]
  refine X_seq ?_
  refine X_reg ?_
  refine XR_a (op_assign rfl) rfl rfl ?_
  refine XR_nil ?_
  refine X_seq ?_
  refine X_seq ?_
  refine X_reg ?_
  refine XR_a (op_move rfl) rfl rfl ?_
  refine XR_a (op_ptr_nil rfl rfl rfl) rfl rfl ?_
  refine XR_nil ?_
  refine X_then rfl ?_
  refine X_seq ?_
  refine X_reg ?_
  refine XR_a (op_assign rfl) rfl rfl ?_
  refine XR_nil ?_
  refine X_ret (.cons (.tmp rfl) .nil) ?_
  exact ⟨rfl, rfl⟩
theorem qsize_spec {B p w : Nat} {Q : List QC} {F : List Res} {hb h0 : Heap} (st : St B hb h0 (tabR p Q w :: F)) :
    Ret Try.prog 41 [.pointer (some ⟨p, 0, none⟩)] h0 fun v h' => v = .int .i64 (sizeTo Q w (2 ^ w) : Nat) ∧ h0 = h' := by
  obtain ⟨vr, pm, vc, D, hd, so⟩ := st.tab
  refine ret_of_X Try.func41 rfl rfl fun w0 hw0 => ?_
  simp only [argE, Nat.zero_add, Nat.reduceAdd]
  refine X_seq ?_
  refine X_reg ?_
  refine XR_a (op_assign rfl) rfl rfl ?_
  refine XR_nil ?_
  refine X_seq ?_
  refine X_seq ?_
  refine X_reg ?_
  refine XR_a (op_move rfl) rfl rfl ?_
  refine XR_a (op_ptr_nil rfl rfl rfl) rfl rfl ?_
  refine XR_nil ?_
  refine X_else rfl ?_
  refine X_skip ?_
  refine X_seq ?_
  refine X_reg ?_
  refine XR_a (op_move rfl) rfl rfl ?_
  refine XR_a (op_nilCheck rfl) rfl rfl ?_
  first | refine XR_a (op_field0 rfl rfl) rfl rfl ?_ | refine XR_a (op_fieldn rfl rfl) rfl rfl ?_
  refine XR_a (op_ld (so.cell 0 (i := 4) rfl rfl) rfl rfl rfl) rfl rfl ?_
  refine XR_a (op_assign rfl) rfl rfl ?_
  refine XR_nil ?_
  refine X_ret (.cons (.tmp rfl) .nil) ?_
  exact ⟨rfl, rfl⟩
theorem qsize_none (h0 : Heap) : Ret Try.prog 41 [.pointer none] h0 fun v h' => v = .int .i64 0 ∧ h0 = h' := by
  refine ret_of_X Try.func41 rfl rfl fun w0 hw0 => ?_
  simp only [argE, Nat.zero_add, Nat.reduceAdd]
  refine X_seq ?_
  refine X_reg ?_
  refine XR_a (op_assign rfl) rfl rfl ?_
  refine XR_nil ?_
  refine X_seq ?_
  refine X_seq ?_
  refine X_reg ?_
  refine XR_a (op_move rfl) rfl rfl ?_
  refine XR_a (op_ptr_nil rfl rfl rfl) rfl rfl ?_
  refine XR_nil ?_
  refine X_then rfl ?_
  refine X_seq ?_
  refine X_reg ?_
  refine XR_a (op_assign rfl) rfl rfl ?_
  refine XR_nil ?_
  refine X_ret (.cons (.tmp rfl) .nil) ?_
  exact ⟨rfl, rfl⟩

def rowAt (Q : List QC) (w : Nat) (n : Int) : QR := if n < 0 ∨ (2 ^ w : Nat) ≤ n then zeroQ else rowQ Q w n.toNat
theorem qrow_spec {B p w : Nat} {Q : List QC} {F : List Res} {hb h0 : Heap} (n : Int) (st : St B hb h0 (tabR p Q w :: F)) (hw : w ≤ 15) :
    Ret Try.prog 39 [.pointer (some ⟨p, 0, none⟩), .int .i64 n] h0 fun v h' => v = .agg (rC (rowAt Q w n)).toArray ∧ Ext h0 h' := by
  have hpw : 2 ^ w ≤ 32768 := Nat.pow_le_pow_right (n := 2) (by omega) hw
  have hpw0 : 0 < 2 ^ w := Nat.pow_pos (by omega)
  refine ret_of_X Try.func39 rfl rfl fun w0 hw0 => ?_
  simp only [argE, Nat.zero_add, Nat.reduceAdd]
  have sn := St.start h0
  refine X_seq ?_
  refine X_reg ?_
  refine XR_wa (opl_new rfl) rfl rfl rfl ?_
  rintro _ hp ⟨px, rfl, hnew⟩
  replace sn := sn.new hnew
  obtain ⟨vr, pm, vc, D, hd, so⟩ := (st.ext hnew.1).tab
  obtain ⟨gr, nr, cr, rfl, hlenr, _, _, hrd⟩ := so.row0 1 rfl (by rw [cellsR_len]; omega)
  rw [cellsR_len] at hlenr
  obtain rfl : nr = 2 ^ w := by omega
  obtain ⟨g', o', e', hc'⟩ := hrd.at_ (by rw [cellsR_len]; omega)
  cases e'
  refine XR_nil ?_
  refine X_seq ?_
  refine X_seq ?_
  refine X_reg ?_
  refine XR_a (op_move rfl) rfl rfl ?_
  refine XR_a (op_ptr_nil rfl rfl rfl) rfl rfl ?_
  refine XR_a (op_move rfl) rfl rfl ?_
  refine XR_a (op_move rfl) rfl rfl ?_
  refine XR_a (op_lss rfl rfl) rfl rfl ?_
  refine XR_a (op_pick_f rfl rfl) rfl rfl ?_
  refine XR_a (op_move rfl) rfl rfl ?_
  refine XR_if 11 rfl (fun h => ?_) (fun h => ?_)
  · refine XR_no rfl rfl ?_
    refine XR_no rfl rfl ?_
    refine XR_no rfl rfl ?_
    refine XR_no rfl rfl ?_
    refine XR_no rfl rfl ?_
    refine XR_no rfl rfl ?_
    refine XR_no rfl rfl ?_
    refine XR_a (op_pick_t rfl rfl) rfl rfl ?_
    refine XR_nil ?_
    refine X_then rfl ?_
    refine X_seq ?_
    refine X_reg ?_
    refine XR_a (op_build (ps := []) (cs := (rC zeroQ).toArray) rfl rfl) rfl rfl ?_
    refine XR_wn (opl_store_whole (us := rC zeroQ) sn 0 rfl rfl rfl rfl rfl (one_rC _) rfl) rfl rfl fun _ hp sn => ?_
    simp only [List.set_cons_zero, List.set_cons_succ] at sn
    refine XR_nil ?_
    refine X_ret (.cons (RV_agg (vs := rC zeroQ) rfl rfl rfl (sn.cells 0 rfl)) .nil) ?_
    unfold rowAt
    rw [if_pos (by omega)]
    exact ⟨rfl, sn.low⟩
  · refine XR_a (op_move rfl) rfl rfl ?_
    refine XR_a (op_move rfl) rfl rfl ?_
    refine XR_a (op_nilCheck rfl) rfl rfl ?_
    first | refine XR_a (op_field0 rfl rfl) rfl rfl ?_ | refine XR_a (op_fieldn rfl rfl) rfl rfl ?_
    refine XR_a (op_ld (so.cell 0 (i := 1) rfl rfl) rfl rfl rfl) rfl rfl ?_
    refine XR_a (op_len rfl rfl rfl) rfl rfl ?_
    refine XR_a (op_geq rfl rfl) rfl rfl ?_
    refine XR_a (op_pick_f rfl rfl) rfl rfl ?_
    refine XR_nil ?_
    refine X_if rfl (fun h => ?_) (fun h => ?_)
    · refine X_seq ?_
      refine X_reg ?_
      refine XR_a (op_build (ps := []) (cs := (rC zeroQ).toArray) rfl rfl) rfl rfl ?_
      refine XR_wn (opl_store_whole (us := rC zeroQ) sn 0 rfl rfl rfl rfl rfl (one_rC _) rfl) rfl rfl fun _ hp sn => ?_
      simp only [List.set_cons_zero, List.set_cons_succ] at sn
      refine XR_nil ?_
      refine X_ret (.cons (RV_agg (vs := rC zeroQ) rfl rfl rfl (sn.cells 0 rfl)) .nil) ?_
      unfold rowAt
      rw [if_pos (by omega)]
      exact ⟨rfl, sn.low⟩
    · obtain ⟨m, rfl⟩ : ∃ m : Nat, n = m := ⟨n.toNat, by omega⟩
      have hm : m < 2 ^ w := by omega
      refine X_skip ?_
      refine X_seq ?_
      refine X_reg ?_
      refine XR_a (op_move rfl) rfl rfl ?_
      refine XR_a (op_nilCheck rfl) rfl rfl ?_
      first | refine XR_a (op_field0 rfl rfl) rfl rfl ?_ | refine XR_a (op_fieldn rfl rfl) rfl rfl ?_
      refine XR_a (op_ld (so.cell 0 (i := 1) rfl rfl) rfl rfl rfl) rfl rfl ?_
      refine XR_a (op_move rfl) rfl rfl ?_
      refine XR_a (op_index (i := m) rfl rfl rfl (by omega)) rfl rfl ?_
      refine XR_a (op_ldA (vs := rC (rowQ Q w m)) (fun j u hu => by
        have hj : j < 3 := (List.getElem?_eq_some_iff.1 hu).1
        have := hc' (m * 3 + j) u (by rw [cellsR_get _ hm hj]; exact hu)
        rwa [← Nat.add_assoc] at this) rfl rfl rfl rfl) rfl rfl ?_
      refine XR_wn (opl_store_whole (us := rC (rowQ Q w m)) sn 0 rfl rfl rfl rfl rfl (one_rC _) rfl) rfl rfl fun _ hp sn => ?_
      simp only [List.set_cons_zero, List.set_cons_succ] at sn
      refine XR_nil ?_
      refine X_ret (.cons (RV_agg (vs := rC (rowQ Q w m)) rfl rfl rfl (sn.cells 0 rfl)) .nil) ?_
      unfold rowAt
      rw [if_neg (by omega), Int.toNat_natCast]
      exact ⟨rfl, sn.low⟩
theorem qrow_none (n : Int) (h0 : Heap) : Ret Try.prog 39 [.pointer none, .int .i64 n] h0 fun v h' => v = .agg (rC zeroQ).toArray ∧ Ext h0 h' := by
  refine ret_of_X Try.func39 rfl rfl fun w0 hw0 => ?_
  simp only [argE, Nat.zero_add, Nat.reduceAdd]
  have sn := St.start h0
  refine X_seq ?_
  refine X_reg ?_
  refine XR_wa (opl_new rfl) rfl rfl rfl ?_
  rintro _ hp ⟨px, rfl, hnew⟩
  replace sn := sn.new hnew
  refine XR_nil ?_
  refine X_seq ?_
  refine X_seq ?_
  refine X_reg ?_
  refine XR_a (op_move rfl) rfl rfl ?_
  refine XR_a (op_ptr_nil rfl rfl rfl) rfl rfl ?_
  refine XR_a (op_move rfl) rfl rfl ?_
  refine XR_no rfl rfl ?_
  refine XR_no rfl rfl ?_
  refine XR_a (op_pick_t rfl rfl) rfl rfl ?_
  refine XR_a (op_move rfl) rfl rfl ?_
  refine XR_no rfl rfl ?_
  refine XR_no rfl rfl ?_
  refine XR_no rfl rfl ?_
  refine XR_no rfl rfl ?_
  refine XR_no rfl rfl ?_
  refine XR_no rfl rfl ?_
  refine XR_no rfl rfl ?_
  refine XR_a (op_pick_t rfl rfl) rfl rfl ?_
  refine XR_nil ?_
  refine X_then rfl ?_
  refine X_seq ?_
  refine X_reg ?_
  refine XR_a (op_build (ps := []) (cs := (rC zeroQ).toArray) rfl rfl) rfl rfl ?_
  refine XR_wn (opl_store_whole (us := rC zeroQ) sn 0 rfl rfl rfl rfl rfl (one_rC _) rfl) rfl rfl fun _ hp sn => ?_
  simp only [List.set_cons_zero, List.set_cons_succ] at sn
  refine XR_nil ?_
  refine X_ret (.cons (RV_agg (vs := rC zeroQ) rfl rfl rfl (sn.cells 0 rfl)) .nil) ?_
  exact ⟨rfl, sn.low⟩

theorem St.big {B : Nat} {h0 hp : Heap} {f : Nat × Value → Res} {x : Nat × Value} : ∀ {D : List (Nat × Value)} {F : List Res}, x ∈ D → St B h0 hp (bigR f D :: F) → ∃ F', St B h0 hp (f x :: F')
  | y :: D, F, h, st => by
    have s1 := St.star.1 st
    rcases List.mem_cons.1 h with rfl | h1
    · exact ⟨_, s1⟩
    · exact St.big h1 (s1.perm rot)
theorem deepTo_mem {Q : List QC} {w m : Nat} (hm : m < 2 ^ w) (h : (rowQ Q w m).2.2 = true) : m ∈ deepTo Q w (2 ^ w) := List.mem_filter.2 ⟨List.mem_range.2 hm, h⟩
theorem deepTo_nodup (Q : List QC) (w n : Nat) : (deepTo Q w n).Nodup := List.Nodup.sublist List.filter_sublist List.nodup_range
theorem keysOf_one {D : List (Nat × Value)} {m : Nat} {vm : Value} (hn : (D.map (·.1)).Nodup) (hm : (m, vm) ∈ D) : ((m : Int), vm) ∈ keysOf D ∧ ∀ q ∈ keysOf D, q.1 = (m : Int) → q.2 = vm := by
  refine ⟨List.mem_map.2 ⟨(m, vm), List.mem_reverse.2 hm, rfl⟩, fun q hq e => ?_⟩
  obtain ⟨x, hx, rfl⟩ := List.mem_map.1 hq
  replace hx : x ∈ D := List.mem_reverse.1 hx
  have e : x.1 = m := by simp only at e; omega
  clear hq
  induction D with
  | nil => cases hx
  | cons y D ih =>
    rw [List.map_cons, List.nodup_cons] at hn
    rcases List.mem_cons.1 hm with h1 | h1 <;> rcases List.mem_cons.1 hx with h2 | h2
    · rw [h2, ← h1]
    · exact absurd (List.mem_map.2 ⟨x, h2, by rw [e, ← h1]⟩) hn.1
    · exact absurd (List.mem_map.2 ⟨(m, vm), h1, by rw [← h2]; exact e.symm⟩) hn.1
    · exact ih hn.2 h1 h2

theorem qfind_spec {B p w x : Nat} {Q : List QC} {F : List Res} {hb h0 : Heap} (st : St B hb h0 (tabR p Q w :: F)) (hQ : QOk Q) (hw : 1 ≤ w ∧ w ≤ 15) (hx : x < 32768) :
    Ret Try.prog 87 [.pointer (some ⟨p, 0, none⟩), .int .i64 (x : Int)] h0 fun v h' => v = .agg (rC (findQ Q w x)).toArray ∧ Ext h0 h' := by
  have hpw : 2 ^ w ≤ 32768 := Nat.pow_le_pow_right (n := 2) (by omega) hw.2
  have hpw0 : 0 < 2 ^ w := Nat.pow_pos (by omega)
  obtain ⟨m, hme⟩ : ∃ m, x % 2 ^ w = m := ⟨_, rfl⟩
  have hm : m < 2 ^ w := by rw [← hme]; exact Nat.mod_lt _ hpw0
  have hrl := rowQ_len hQ w m
  refine ret_of_X Try.func87 rfl rfl fun w0 hw0 => ?_
  simp only [argE, Nat.zero_add, Nat.reduceAdd]
  have sn := St.start h0
  refine X_seq ?_
  refine X_reg ?_
  refine XR_wa (opl_new rfl) rfl rfl rfl ?_
  rintro _ hp ⟨px, rfl, hnew⟩
  replace sn := sn.new hnew
  obtain ⟨vr, pm, vc, D, hd, so⟩ := (st.ext hnew.1).tab
  obtain ⟨gr, nr, cr, rfl, hlenr, _, _, hrd⟩ := so.row0 1 rfl (by rw [cellsR_len]; omega)
  rw [cellsR_len] at hlenr
  obtain rfl : nr = 2 ^ w := by omega
  refine XR_nil ?_
  refine X_seq ?_
  refine X_reg ?_
  refine XR_a (op_move rfl) rfl rfl ?_
  refine XR_a (op_move rfl) rfl rfl ?_
  refine XR_a (op_nilCheck rfl) rfl rfl ?_
  first | refine XR_a (op_field0 rfl rfl) rfl rfl ?_ | refine XR_a (op_fieldn rfl rfl) rfl rfl ?_
  refine XR_a (op_ld (so.cell 0 (i := 1) rfl rfl) rfl rfl rfl) rfl rfl ?_
  refine XR_a (op_len rfl rfl rfl) rfl rfl ?_
  refine XR_a (op_subN (m := 2 ^ w) (n := 1) rfl rfl (by omega) (by simp only [inK]; omega)) rfl rfl ?_
  refine XR_a (op_andS (m := x) (n := 2 ^ w - 1) rfl rfl (by simp only [inK]; omega) (by simp only [inK]; omega)) rfl rfl ?_
  refine XR_as (.int .i64 (m : Nat)) (by rw [and_low, hme]) ?_
  refine XR_a (op_assign rfl) rfl rfl ?_
  refine XR_nil ?_
  refine X_seq ?_
  refine X_reg ?_
  refine XR_a (op_move rfl) rfl rfl ?_
  refine XR_a (op_nilCheck rfl) rfl rfl ?_
  first | refine XR_a (op_field0 rfl rfl) rfl rfl ?_ | refine XR_a (op_fieldn rfl rfl) rfl rfl ?_
  refine XR_a (op_ld (so.cell 0 (i := 1) rfl rfl) rfl rfl rfl) rfl rfl ?_
  refine XR_a (op_move rfl) rfl rfl ?_
  refine XR_a (op_index (i := m) rfl rfl rfl (by omega)) rfl rfl ?_
  refine XR_a (op_ldA (vs := rC (rowQ Q w m)) (fun j u hu => by
    obtain ⟨g', o', e', hc'⟩ := hrd.at_ (by rw [cellsR_len]; omega)
    cases e'
    have hj : j < 3 := (List.getElem?_eq_some_iff.1 hu).1
    have := hc' (m * 3 + j) u (by rw [cellsR_get _ hm hj]; exact hu)
    rwa [← Nat.add_assoc] at this) rfl rfl rfl rfl) rfl rfl ?_
  refine XR_wa (opl_new rfl) rfl rfl rfl ?_
  rintro _ hp ⟨py, rfl, hnew⟩
  replace sn := sn.new hnew
  refine XR_wn (opl_store_whole (us := rC (rowQ Q w m)) sn 0 rfl rfl rfl rfl rfl (one_rC _) rfl) rfl rfl fun _ hp sn => ?_
  simp only [List.set_cons_zero, List.set_cons_succ] at sn
  obtain ⟨vr', pm', vc', D', hd', so'⟩ := (st.ext sn.low).tab
  refine XR_nil ?_
  refine X_seq ?_
  refine X_seq ?_
  refine X_reg ?_
  first | refine XR_a (op_field0 rfl rfl) rfl rfl ?_ | refine XR_a (op_fieldn rfl rfl) rfl rfl ?_
  refine XR_a (op_ld (sn.cell 0 (i := 2) rfl rfl) rfl rfl rfl) rfl rfl ?_
  refine XR_nil ?_
  refine X_cond rfl (fun h => ?_) (fun h => ?_)
  · obtain ⟨hre, hL0⟩ := rowQ_deep h
    obtain ⟨c0, hc0, hcl0, hLe⟩ := longest_in hL0
    have hL1 := (longQ_iff.1 hcl0).1
    have hL2 := longest_le hQ w m
    have hpL : 2 ^ (longest Q w m - w) ≤ 32768 := Nat.pow_le_pow_right (n := 2) (by omega) (show longest Q w m - w ≤ 15 by omega)
    have hpL0 : 0 < 2 ^ (longest Q w m - w) := Nat.pow_pos (by omega)
    have hmem : m ∈ D'.map (·.1) := by rw [hd', List.mem_reverse]; exact deepTo_mem hm h
    obtain ⟨y, hy, hy1⟩ := List.mem_map.1 hmem
    obtain ⟨m', vm⟩ := y
    obtain rfl : m' = m := hy1
    obtain ⟨k1, k2⟩ := keysOf_one (by rw [hd']; exact List.pairwise_reverse.2 ((deepTo_nodup Q w _).imp fun h => Ne.symm h)) hy
    obtain ⟨F', sf⟩ := St.big hy so'.tail.tail.tail.tail
    obtain ⟨gv, nv, cv, rfl, hlenv, _, _, hrdv⟩ := St.row0 sf 0 rfl (by rw [cellsR_len]; simp only; omega)
    rw [cellsR_len] at hlenv
    obtain rfl : nv = 2 ^ (longest Q w m' - w) := by simp only at hlenv; omega
    obtain ⟨jj, hjj⟩ : ∃ jj, x / 2 ^ w % 2 ^ (longest Q w m' - w) = jj := ⟨_, rfl⟩
    have hjl : jj < 2 ^ (longest Q w m' - w) := by rw [← hjj]; exact Nat.mod_lt _ hpL0
    have hfin : findQ Q w x = moreQ Q w m' jj := by unfold findQ; rw [hme, hre]; simp only [if_true]; rw [hjj]
    have hxd : x / 2 ^ w ≤ 32768 := Nat.le_trans (Nat.div_le_self _ _) (by omega)
    obtain ⟨xd, hxde⟩ : ∃ xd, x / 2 ^ w = xd := ⟨_, rfl⟩
    rw [hxde] at hxd hjj
    refine X_seq ?_
    refine X_reg ?_
    refine XR_a (op_move rfl) rfl rfl ?_
    refine XR_a (op_nilCheck rfl) rfl rfl ?_
    first | refine XR_a (op_field0 rfl rfl) rfl rfl ?_ | refine XR_a (op_fieldn rfl rfl) rfl rfl ?_
    refine XR_a (op_ld (so'.cell 0 (i := 2) rfl rfl) rfl rfl rfl) rfl rfl ?_
    refine XR_a (op_move rfl) rfl rfl ?_
    refine XR_wa (opl_mapGet so' 2 rfl k1 k2 rfl rfl rfl) rfl rfl rfl ?_
    rintro _ _ ⟨rfl, rfl⟩
    refine XR_a (op_assign rfl) rfl rfl ?_
    refine XR_nil ?_
    refine X_reg ?_
    refine XR_a (op_move rfl) rfl rfl ?_
    refine XR_a (op_move rfl) rfl rfl ?_
    refine XR_a (op_move rfl) rfl rfl ?_
    refine XR_a (op_nilCheck rfl) rfl rfl ?_
    first | refine XR_a (op_field0 rfl rfl) rfl rfl ?_ | refine XR_a (op_fieldn rfl rfl) rfl rfl ?_
    refine XR_a (op_ld (so'.cell 0 (i := 0) rfl rfl) rfl rfl rfl) rfl rfl ?_
    refine XR_a (op_shrC (m := x) w rfl rfl (by simp only [IntKind.bits]; omega)) rfl rfl ?_
    refine XR_as (.int .i64 (xd : Nat)) (by rw [hxde]) ?_
    refine XR_a (op_move rfl) rfl rfl ?_
    refine XR_a (op_len rfl rfl rfl) rfl rfl ?_
    refine XR_a (op_subN (m := 2 ^ (longest Q w m' - w)) (n := 1) rfl rfl (by omega) (by simp only [inK]; omega)) rfl rfl ?_
    refine XR_a (op_andS (m := xd) (n := 2 ^ (longest Q w m' - w) - 1) rfl rfl (by simp only [inK]; omega) (by simp only [inK]; omega)) rfl rfl ?_
    refine XR_as (.int .i64 (jj : Nat)) (by rw [and_low, hjj]) ?_
    refine XR_a (op_index (i := jj) rfl rfl rfl (by omega)) rfl rfl ?_
    refine XR_a (op_ldA (vs := rC (moreQ Q w m' jj)) (fun j u hu => by
      obtain ⟨g', o', e', hc'⟩ := hrdv.at_ (by rw [cellsR_len]; simp only; omega)
      cases e'
      have hj : j < 3 := (List.getElem?_eq_some_iff.1 hu).1
      have := hc' (jj * 3 + j) u (by rw [cellsR_get _ hjl hj]; exact hu)
      rwa [← Nat.add_assoc] at this) rfl rfl rfl rfl) rfl rfl ?_
    refine XR_wn (opl_store_whole (us := rC (moreQ Q w m' jj)) sn 0 rfl rfl rfl rfl rfl (one_rC _) rfl) rfl rfl fun _ hp sn => ?_
    simp only [List.set_cons_zero, List.set_cons_succ] at sn
    rw [← hfin] at sn
    refine XR_nil ?_
    refine X_seq ?_
    refine X_reg ?_
    refine XR_a (op_ldA (vs := rC (findQ Q w x)) (sn.cells 0 rfl) rfl rfl rfl rfl) rfl rfl ?_
    refine XR_wn (opl_store_whole (us := rC (findQ Q w x)) sn 1 rfl rfl rfl rfl rfl (one_rC _) rfl) rfl rfl fun _ hp sn => ?_
    simp only [List.set_cons_zero, List.set_cons_succ] at sn
    refine XR_nil ?_
    refine X_ret (.cons (RV_agg (vs := rC (findQ Q w x)) rfl rfl rfl (sn.cells 1 rfl)) .nil) ?_
    exact ⟨rfl, sn.low⟩
  · have hfin : findQ Q w x = rowQ Q w m := by unfold findQ; rw [hme, h]; simp
    rw [← hfin] at sn
    refine X_skip ?_
    refine X_seq ?_
    refine X_reg ?_
    refine XR_a (op_ldA (vs := rC (findQ Q w x)) (sn.cells 0 rfl) rfl rfl rfl rfl) rfl rfl ?_
    refine XR_wn (opl_store_whole (us := rC (findQ Q w x)) sn 1 rfl rfl rfl rfl rfl (one_rC _) rfl) rfl rfl fun _ hp sn => ?_
    simp only [List.set_cons_zero, List.set_cons_succ] at sn
    refine XR_nil ?_
    refine X_ret (.cons (RV_agg (vs := rC (findQ Q w x)) rfl rfl rfl (sn.cells 1 rfl)) .nil) ?_
    exact ⟨rfl, sn.low⟩
end Go.Bn
