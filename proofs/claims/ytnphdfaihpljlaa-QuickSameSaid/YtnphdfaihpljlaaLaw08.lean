/- The laws of stage 8: the values. -/
import Derived.Test.YtnphdfaihpljlaaCanonR
import Derived.Test.YtnphdfaihpljlaaBitsQ
set_option linter.unusedVariables false
set_option linter.unusedSimpArgs false
set_option maxHeartbeats 4000000
set_option maxRecDepth 20000
namespace Go.Bn
open Go Proofs

theorem errC_pos {li : List Int} (h : rightC li) : errC li = 0 := errC_zero.2 h
theorem errC_neg {li : List Int} (h : ¬ rightC li) : errC li = 13 := by unfold errC; rw [if_neg h]
theorem countP_succ (n : Nat) : ∀ ls : List Nat, ls.countP (fun x => decide (1 ≤ x ∧ x ≤ n + 1)) = ls.countP (fun x => decide (1 ≤ x ∧ x ≤ n)) + ls.count (n + 1)
  | [] => rfl
  | x :: ls => by
    rw [List.countP_cons, List.countP_cons, List.count_cons, countP_succ n ls]
    by_cases h1 : x = n + 1
    · subst h1; rw [if_pos (by simp), if_neg (by simp), if_pos (by simp)]; omega
    · by_cases h2 : 1 ≤ x ∧ x ≤ n
      · rw [if_pos (by simp; omega), if_pos (by simp; omega), if_neg (by simpa using h1)]; omega
      · rw [if_neg (by simp; omega), if_neg (by simp; omega), if_neg (by simpa using h1)]; omega
theorem sum_counts (ls : List Nat) : ∀ n, ((List.range' 1 n).map fun m => ls.count m).sum = ls.countP (fun x => decide (1 ≤ x ∧ x ≤ n))
  | 0 => by
    rw [eq_comm, List.range'_zero, List.map_nil, List.sum_nil, List.countP_eq_zero]
    intro x _; simp; omega
  | n + 1 => by
    rw [List.range'_1_concat, List.map_append, List.sum_append, sum_counts ls n, countP_succ]
    simp [Nat.add_comm]
def posN (ls : List Nat) : Nat := ls.countP fun x => decide (x ≠ 0)
theorem order_posN {ls : List Nat} (h : ∀ x ∈ ls, x ≤ 15) : (orderTo ls 16).length = posN ls := by
  rw [orderTo_length ls 15, sum_counts]
  refine List.countP_congr fun x hx => ?_
  have := h x hx
  simp; omega
theorem posN_take {ls : List Nat} {i : Nat} (h : i < ls.length) : posN (ls.take (i + 1)) = posN (ls.take i) + if ls[i] ≠ 0 then 1 else 0 := by
  unfold posN
  rw [List.take_succ_eq_append_getElem h, List.countP_append, List.countP_cons, List.countP_nil]
  simp
def wantAt (ls : List Nat) (s : Int) (i : Nat) : Nat := if s < i then lenAt ls s else 0

theorem canonValues_ret {n c : Nat} {A : Option Addr} {li : List Int} {s : Int} {h0 : Heap} (hr : Rd h0 A (li.map iV)) (hl : li.length = n) (hn : n ≤ 17592186044416) :
    Ret Try.prog 3 [.slice A n c, .int .i64 s] h0 fun v h' => v = .bool true ∧ Ext h0 h' := by
  refine ret_of_X Try.func3 rfl rfl fun w0 hw0 => ?_
  simp only [argE, Nat.zero_add, Nat.reduceAdd]
  refine X_seq ?_
  refine X_reg ?_
  refine XR_a (op_assign rfl) rfl rfl ?_
  by_cases hR : rightC li
  · refine XR_nil ?_
    refine X_seq ?_
    refine X_seq ?_
    refine X_reg ?_
    refine XR_a (op_move rfl) rfl rfl ?_
    refine XR_a (op_len rfl rfl rfl) rfl rfl ?_
    refine XR_a (op_gtr rfl rfl) rfl rfl ?_
    refine XR_nil ?_
    refine X_if rfl (fun h => ?_) (fun h => ?_)
    · refine X_seq ?_
      refine X_reg ?_
      refine XR_wa (opl_call (lives08 h0) rfl (by kernel_rfl)) rfl rfl rfl ?_
      rintro _ hp ⟨rfl, hx⟩
      refine XR_a (op_assign rfl) rfl rfl ?_
      refine XR_nil ?_
      refine X_ret (.cons (.tmp rfl) .nil) ?_
      exact ⟨rfl, hx⟩
    · refine X_skip ?_
      refine X_seq ?_
      refine X_reg ?_
      refine XR_a (op_move rfl) rfl rfl ?_
      refine XR_wa (opl_call (right08_ref hr hl hn) rfl (by kernel_rfl)) rfl rfl rfl ?_
      rintro _ hp ⟨rfl, rfl⟩
      rw [decide_eq_true hR]
      refine XR_a (op_assign rfl) rfl rfl ?_
      refine XR_nil ?_
      refine X_seq ?_
      refine X_reg ?_
      refine XR_a (op_move rfl) rfl rfl ?_
      refine XR_wa (opl_call (cvalues_spec hr hl hn) rfl (by kernel_rfl)) rfl rfl rfl ?_
      rintro _ hp1 ⟨w, rfl, hx1, hy1, _⟩
      have sv := hy1 hR
      rw [errC_pos hR]
      refine XR_a (op_move rfl) rfl rfl ?_
      refine XR_a (op_extract rfl rfl) rfl rfl ?_
      refine XR_a (op_extract rfl rfl) rfl rfl ?_
      refine XR_a (op_assign rfl) rfl rfl ?_
      refine XR_a (op_assign rfl) rfl rfl ?_
      refine XR_nil ?_
      refine X_seq ?_
      refine X_reg ?_
      refine XR_a (op_move rfl) rfl rfl ?_
      refine XR_wa (opl_call (cnew_spec (hr.ext hx1) hl hn) rfl (by kernel_rfl)) rfl rfl rfl ?_
      rintro _ hp2 ⟨w2, rfl, hx2, hy2, _⟩
      obtain ⟨p, rfl, sc⟩ := hy2 hR
      have st := sv.join sc
      simp only [List.cons_append, List.nil_append] at st
      rw [errC_pos hR]
      refine XR_a (op_move rfl) rfl rfl ?_
      refine XR_a (op_extract rfl rfl) rfl rfl ?_
      refine XR_a (op_extract rfl rfl) rfl rfl ?_
      refine XR_a (op_assign rfl) rfl rfl ?_
      refine XR_a (op_assign rfl) rfl rfl ?_
      refine XR_nil ?_
      refine X_seq ?_
      refine X_seq ?_
      refine X_reg ?_
      refine XR_a (op_move rfl) rfl rfl ?_
      refine XR_wa (opl_call (cright_spec (hr.ext (hx1.trans hx2)) hl hn) rfl (by kernel_rfl)) rfl rfl rfl ?_
      rintro _ hp3 ⟨rfl, hx3⟩
      replace st := st.ext hx3
      rw [decide_eq_true hR]
      refine XR_a (op_move rfl) rfl rfl ?_
      refine XR_a (op_neqB rfl rfl rfl) rfl rfl ?_
      refine XR_a (op_move rfl) rfl rfl ?_
      refine XR_a (op_move rfl) rfl rfl ?_
      refine XR_a (op_eql rfl rfl) rfl rfl ?_
      refine XR_a (op_move rfl) rfl rfl ?_
      refine XR_a (op_neqB rfl rfl rfl) rfl rfl ?_
      refine XR_a (op_pick_f rfl rfl) rfl rfl ?_
      refine XR_a (op_move rfl) rfl rfl ?_
      refine XR_a (op_move rfl) rfl rfl ?_
      refine XR_a (op_eql rfl rfl) rfl rfl ?_
      refine XR_a (op_move rfl) rfl rfl ?_
      refine XR_a (op_neqB rfl rfl rfl) rfl rfl ?_
      refine XR_a (op_pick_f rfl rfl) rfl rfl ?_
      refine XR_a (op_move rfl) rfl rfl ?_
      refine XR_a (op_move rfl) rfl rfl ?_
      refine XR_a (op_ptr_nil rfl rfl rfl) rfl rfl ?_
      refine XR_a (op_move rfl) rfl rfl ?_
      refine XR_a (op_eqlB rfl rfl rfl) rfl rfl ?_
      refine XR_a (op_pick_f rfl rfl) rfl rfl ?_
      refine XR_nil ?_
      refine X_else rfl ?_
      refine X_skip ?_
      refine X_seq ?_
      refine X_seq ?_
      refine X_reg ?_
      refine XR_a (op_move rfl) rfl rfl ?_
      first | refine XR_a (op_notd rfl) rfl rfl ?_ | refine XR_a (op_not rfl) rfl rfl ?_
      refine XR_nil ?_
      refine X_else rfl ?_
      refine X_skip ?_
      refine X_seq ?_
      refine X_reg ?_
      refine XR_a (op_assign rfl) rfl rfl ?_
      refine XR_a (op_assign rfl) rfl rfl ?_
      refine XR_nil ?_
      refine X_seq ?_
      refine X_seq ?_
      refine X_reg ?_
      refine XR_a (op_assign rfl) rfl rfl ?_
      refine XR_nil ?_
      refine X_block ?_
      have hok := hR.ok
      have hr2 : Rd h0 A ((li.map Int.toNat).map nV) := by rw [← bounded_nat hR.2.1]; exact hr
      have hl2 : (li.map Int.toNat).length = n := by rw [List.length_map]; exact hl
      obtain ⟨ls, hls⟩ : ∃ ls, li.map Int.toNat = ls := ⟨_, rfl⟩
      rw [hls] at hok hr2 hl2 st
      have h320 := hok.2.1
      have h1n := hok.1
      obtain ⟨g, o, rfl, hc⟩ := hr2.at_ (by rw [List.length_map]; omega)
      refine X_loop (fun i => n - i) (fun i => [(0, .slice (some ⟨g, o, none⟩) n c), (1, .int .i64 s), (6, w), (8, .pointer (some ⟨p, 0, none⟩)), (10, .int .i64 (posN (ls.take i) : Nat)), (11, .int .i64 (wantAt ls s i : Nat)), (12, .int .i64 (i : Nat))])
        (fun (i : Nat) hp => St h0.size h0 hp [codeR p ls, row 3 1 w ((vals ls).map nV)] ∧ i ≤ n)
        0 (.cons rfl (.cons rfl (.cons rfl (.cons rfl (.cons rfl (.cons (by
          unfold wantAt lenAt
          split
          · rw [if_pos (by omega)]; rfl
          · rfl) (.cons rfl (.nil _)))))))) ⟨st, by omega⟩ ?_
      clear st sv sc
      rintro i hp ⟨st, hi⟩
      refine X_seq ?_
      refine X_seq ?_
      refine X_reg ?_
      refine XR_a (op_move rfl) rfl rfl ?_
      refine XR_a (op_move rfl) rfl rfl ?_
      refine XR_a (op_len rfl rfl rfl) rfl rfl ?_
      refine XR_a (op_lss rfl rfl) rfl rfl ?_
      refine XR_nil ?_
      refine X_if rfl (fun h => ?_) (fun h => ?_)
      · have hlt : i < ls.length := by omega
        have hci := cellH_ext (a := ⟨g, o + i, none⟩) st.low (hc i (nV ls[i]) (by simp [hlt]))
        have hpn := posN_take hlt
        have hpl : posN (ls.take i) ≤ 320 := Nat.le_trans List.countP_le_length (by rw [List.length_take]; omega)
        have hwx : ∀ x : Nat, s = x → wantAt ls s (x + 1) = lenAt ls s := fun x e => by unfold wantAt; rw [if_pos (by omega)]
        have hwy : s ≠ i → wantAt ls s (i + 1) = wantAt ls s i := fun e => by
          unfold wantAt
          by_cases h : s < i
          · rw [if_pos (by omega), if_pos h]
          · rw [if_neg (by omega), if_neg h]
        refine X_skip ?_
        refine X_seq ?_
        refine X_block ?_
        refine X_seq ?_
        refine X_seq ?_
        refine X_reg ?_
        refine XR_a (op_move rfl) rfl rfl ?_
        refine XR_a (op_move rfl) rfl rfl ?_
        first | refine XR_a (op_index1 rfl rfl rfl (by omega)) rfl rfl ?_ | refine XR_a (op_index rfl rfl rfl (by omega)) rfl rfl ?_
        refine XR_a (op_ld (hci) rfl rfl rfl) rfl rfl ?_
        refine XR_a (op_gtr rfl rfl) rfl rfl ?_
        refine XR_nil ?_
        refine X_if rfl (fun h => ?_) (fun h => ?_)
        · refine X_reg ?_
          refine XR_a (op_move rfl) rfl rfl ?_
          first | refine XR_a (op_addN (n := 1) rfl rfl (by simp only [inK]; omega)) rfl rfl ?_ | refine XR_a (op_addI rfl rfl (by simp only [inK]; omega)) rfl rfl ?_ | refine XR_a (op_add rfl rfl) rfl rfl ?_
          refine XR_a (op_assign rfl) rfl rfl ?_
          refine XR_nil ?_
          refine X_seq ?_
          refine X_reg ?_
          refine XR_a (op_move rfl) rfl rfl ?_
          refine XR_a (op_move rfl) rfl rfl ?_
          refine XR_a (op_eql rfl rfl) rfl rfl ?_
          refine XR_nil ?_
          refine X_if rfl (fun h => ?_) (fun h => ?_)
          · refine X_reg ?_
            refine XR_a (op_move rfl) rfl rfl ?_
            refine XR_a (op_move rfl) rfl rfl ?_
            first | refine XR_a (op_index1 rfl rfl rfl (by omega)) rfl rfl ?_ | refine XR_a (op_index rfl rfl rfl (by omega)) rfl rfl ?_
            refine XR_a (op_ld (hci) rfl rfl rfl) rfl rfl ?_
            refine XR_a (op_assign rfl) rfl rfl ?_
            refine XR_nil ?_
            refine X_blk ?_
            refine X_reg ?_
            refine XR_a (op_move rfl) rfl rfl ?_
            first | refine XR_a (op_addN (n := 1) rfl rfl (by simp only [inK]; omega)) rfl rfl ?_ | refine XR_a (op_addI rfl rfl (by simp only [inK]; omega)) rfl rfl ?_ | refine XR_a (op_add rfl rfl) rfl rfl ?_
            refine XR_a (op_assign rfl) rfl rfl ?_
            refine XR_nil ?_
            rw [if_pos (by omega)] at hpn
            obtain rfl : s = i := by omega
            exact X_again (i + 1) (.cons rfl (.cons rfl (.cons rfl (.cons rfl (.cons (by rw [hpn]; rfl) (.cons (by rw [hwx i rfl, lenAt_nat hlt]; rfl) (.cons rfl (.nil _)))))))) ⟨st, by omega⟩ (by omega)
          · refine X_skip ?_
            refine X_blk ?_
            refine X_reg ?_
            refine XR_a (op_move rfl) rfl rfl ?_
            first | refine XR_a (op_addN (n := 1) rfl rfl (by simp only [inK]; omega)) rfl rfl ?_ | refine XR_a (op_addI rfl rfl (by simp only [inK]; omega)) rfl rfl ?_ | refine XR_a (op_add rfl rfl) rfl rfl ?_
            refine XR_a (op_assign rfl) rfl rfl ?_
            refine XR_nil ?_
            rw [if_pos (by omega)] at hpn
            exact X_again (i + 1) (.cons rfl (.cons rfl (.cons rfl (.cons rfl (.cons (by rw [hpn]; rfl) (.cons (by rw [hwy (by omega)]; rfl) (.cons rfl (.nil _)))))))) ⟨st, by omega⟩ (by omega)
        · refine X_skip ?_
          refine X_seq ?_
          refine X_reg ?_
          refine XR_a (op_move rfl) rfl rfl ?_
          refine XR_a (op_move rfl) rfl rfl ?_
          refine XR_a (op_eql rfl rfl) rfl rfl ?_
          refine XR_nil ?_
          refine X_if rfl (fun h => ?_) (fun h => ?_)
          · refine X_reg ?_
            refine XR_a (op_move rfl) rfl rfl ?_
            refine XR_a (op_move rfl) rfl rfl ?_
            first | refine XR_a (op_index1 rfl rfl rfl (by omega)) rfl rfl ?_ | refine XR_a (op_index rfl rfl rfl (by omega)) rfl rfl ?_
            refine XR_a (op_ld (hci) rfl rfl rfl) rfl rfl ?_
            refine XR_a (op_assign rfl) rfl rfl ?_
            refine XR_nil ?_
            refine X_blk ?_
            refine X_reg ?_
            refine XR_a (op_move rfl) rfl rfl ?_
            first | refine XR_a (op_addN (n := 1) rfl rfl (by simp only [inK]; omega)) rfl rfl ?_ | refine XR_a (op_addI rfl rfl (by simp only [inK]; omega)) rfl rfl ?_ | refine XR_a (op_add rfl rfl) rfl rfl ?_
            refine XR_a (op_assign rfl) rfl rfl ?_
            refine XR_nil ?_
            rw [if_neg (by omega)] at hpn
            obtain rfl : s = i := by omega
            exact X_again (i + 1) (.cons rfl (.cons rfl (.cons rfl (.cons rfl (.cons (by rw [hpn]; rfl) (.cons (by rw [hwx i rfl, lenAt_nat hlt]; rfl) (.cons rfl (.nil _)))))))) ⟨st, by omega⟩ (by omega)
          · refine X_skip ?_
            refine X_blk ?_
            refine X_reg ?_
            refine XR_a (op_move rfl) rfl rfl ?_
            first | refine XR_a (op_addN (n := 1) rfl rfl (by simp only [inK]; omega)) rfl rfl ?_ | refine XR_a (op_addI rfl rfl (by simp only [inK]; omega)) rfl rfl ?_ | refine XR_a (op_add rfl rfl) rfl rfl ?_
            refine XR_a (op_assign rfl) rfl rfl ?_
            refine XR_nil ?_
            rw [if_neg (by omega)] at hpn
            exact X_again (i + 1) (.cons rfl (.cons rfl (.cons rfl (.cons rfl (.cons (by rw [hpn]; rfl) (.cons (by rw [hwy (by omega)]; rfl) (.cons rfl (.nil _)))))))) ⟨st, by omega⟩ (by omega)
      · obtain rfl : i = n := by omega
        have htk : ls.take i = ls := List.take_of_length_le (by omega)
        have hwe : wantAt ls s i = lenAt ls s := by
          unfold wantAt lenAt
          split
          · rfl
          · rw [if_neg (by omega), List.getD, List.getElem?_eq_none (by omega)]; rfl
        have hop := order_posN hok.2.2.1
        rw [htk, hwe, ← hop]
        have stK := st
        refine X_exit rfl ?_
        refine X_seq ?_
        refine X_reg ?_
        refine XR_a (op_move rfl) rfl rfl ?_
        refine XR_a (op_move rfl) rfl rfl ?_
        refine XR_wa (opl_call (values08_ref (hr2.ext st.low) hl2 hok) rfl (by kernel_rfl)) rfl rfl rfl ?_
        rintro w2 hp2 st2
        replace st := st.join st2
        obtain ⟨A3, n3, c3, rfl, hlen3, _, _, hrd3⟩ := st.row 0 rfl
        obtain ⟨A4, n4, c4, rfl, hlen4, _, _, hrd4⟩ := st.row 2 rfl
        rw [nV_iV] at hrd3 hrd4
        have hvl := vals_length ls
        simp only [List.length_map] at hlen3 hlen4
        refine XR_wa (opl_call (ints_ref hrd4 (by simp; omega) hrd3 (by simp; omega) (by omega)) rfl (by kernel_rfl)) rfl rfl rfl ?_
        rintro _ _ ⟨rfl, rfl⟩
        rw [decide_eq_true rfl]
        refine XR_a (op_move rfl) rfl rfl ?_
        refine XR_a (op_move rfl) rfl rfl ?_
        refine XR_wa (opl_call (csymbols_spec (stK.join st2).tail) rfl (by kernel_rfl)) rfl rfl rfl ?_
        rintro _ _ ⟨rfl, rfl⟩
        refine XR_a (op_move rfl) rfl rfl ?_
        refine XR_a (op_eql rfl rfl) rfl rfl ?_
        refine XR_as (.bool true) (by rw [decide_eq_true rfl]) ?_
        refine XR_a (op_pick_t rfl rfl) rfl rfl ?_
        refine XR_a (op_move rfl) rfl rfl ?_
        refine XR_a (op_move rfl) rfl rfl ?_
        refine XR_a (op_move rfl) rfl rfl ?_
        refine XR_wa (opl_call (clen_spec st.tail hok.2.1) rfl (by kernel_rfl)) rfl rfl rfl ?_
        rintro _ _ ⟨rfl, rfl⟩
        refine XR_a (op_move rfl) rfl rfl ?_
        refine XR_a (op_eql rfl rfl) rfl rfl ?_
        refine XR_as (.bool true) (by rw [decide_eq_true rfl]) ?_
        refine XR_a (op_pick_t rfl rfl) rfl rfl ?_
        refine XR_a (op_move rfl) rfl rfl ?_
        refine XR_wa (opl_call (lives08 _) rfl (by kernel_rfl)) rfl rfl rfl ?_
        rintro _ hp4 ⟨rfl, hx4⟩
        refine XR_a (op_pick_t rfl rfl) rfl rfl ?_
        refine XR_a (op_assign rfl) rfl rfl ?_
        refine XR_nil ?_
        refine X_ret (.cons (.tmp rfl) .nil) ?_
        exact ⟨rfl, Ext.trans st.low hx4⟩
  · refine XR_nil ?_
    refine X_seq ?_
    refine X_seq ?_
    refine X_reg ?_
    refine XR_a (op_move rfl) rfl rfl ?_
    refine XR_a (op_len rfl rfl rfl) rfl rfl ?_
    refine XR_a (op_gtr rfl rfl) rfl rfl ?_
    refine XR_nil ?_
    refine X_if rfl (fun h => ?_) (fun h => ?_)
    · refine X_seq ?_
      refine X_reg ?_
      refine XR_wa (opl_call (lives08 h0) rfl (by kernel_rfl)) rfl rfl rfl ?_
      rintro _ hp ⟨rfl, hx⟩
      refine XR_a (op_assign rfl) rfl rfl ?_
      refine XR_nil ?_
      refine X_ret (.cons (.tmp rfl) .nil) ?_
      exact ⟨rfl, hx⟩
    · refine X_skip ?_
      refine X_seq ?_
      refine X_reg ?_
      refine XR_a (op_move rfl) rfl rfl ?_
      refine XR_wa (opl_call (right08_ref hr hl hn) rfl (by kernel_rfl)) rfl rfl rfl ?_
      rintro _ hp ⟨rfl, rfl⟩
      rw [decide_eq_false hR]
      refine XR_a (op_assign rfl) rfl rfl ?_
      refine XR_nil ?_
      refine X_seq ?_
      refine X_reg ?_
      refine XR_a (op_move rfl) rfl rfl ?_
      refine XR_wa (opl_call (cvalues_spec hr hl hn) rfl (by kernel_rfl)) rfl rfl rfl ?_
      rintro _ hp1 ⟨w, rfl, hx1, _, hz1⟩
      obtain rfl := hz1 hR
      rw [errC_neg hR]
      refine XR_a (op_move rfl) rfl rfl ?_
      refine XR_a (op_extract rfl rfl) rfl rfl ?_
      refine XR_a (op_extract rfl rfl) rfl rfl ?_
      refine XR_a (op_assign rfl) rfl rfl ?_
      refine XR_a (op_assign rfl) rfl rfl ?_
      refine XR_nil ?_
      refine X_seq ?_
      refine X_reg ?_
      refine XR_a (op_move rfl) rfl rfl ?_
      refine XR_wa (opl_call (cnew_spec (hr.ext hx1) hl hn) rfl (by kernel_rfl)) rfl rfl rfl ?_
      rintro _ hp2 ⟨w2, rfl, hx2, _, hz2⟩
      obtain rfl := hz2 hR
      rw [errC_neg hR]
      refine XR_a (op_move rfl) rfl rfl ?_
      refine XR_a (op_extract rfl rfl) rfl rfl ?_
      refine XR_a (op_extract rfl rfl) rfl rfl ?_
      refine XR_a (op_assign rfl) rfl rfl ?_
      refine XR_a (op_assign rfl) rfl rfl ?_
      refine XR_nil ?_
      refine X_seq ?_
      refine X_seq ?_
      refine X_reg ?_
      refine XR_a (op_move rfl) rfl rfl ?_
      refine XR_wa (opl_call (cright_spec (hr.ext (hx1.trans hx2)) hl hn) rfl (by kernel_rfl)) rfl rfl rfl ?_
      rintro _ hp3 ⟨rfl, hx3⟩
      rw [decide_eq_false hR]
      refine XR_a (op_move rfl) rfl rfl ?_
      refine XR_a (op_neqB rfl rfl rfl) rfl rfl ?_
      refine XR_a (op_move rfl) rfl rfl ?_
      refine XR_a (op_move rfl) rfl rfl ?_
      refine XR_a (op_eql rfl rfl) rfl rfl ?_
      refine XR_a (op_move rfl) rfl rfl ?_
      refine XR_a (op_neqB rfl rfl rfl) rfl rfl ?_
      refine XR_a (op_pick_f rfl rfl) rfl rfl ?_
      refine XR_a (op_move rfl) rfl rfl ?_
      refine XR_a (op_move rfl) rfl rfl ?_
      refine XR_a (op_eql rfl rfl) rfl rfl ?_
      refine XR_a (op_move rfl) rfl rfl ?_
      refine XR_a (op_neqB rfl rfl rfl) rfl rfl ?_
      refine XR_a (op_pick_f rfl rfl) rfl rfl ?_
      refine XR_a (op_move rfl) rfl rfl ?_
      refine XR_a (op_move rfl) rfl rfl ?_
      refine XR_a (op_ptr_nil rfl rfl rfl) rfl rfl ?_
      refine XR_a (op_move rfl) rfl rfl ?_
      refine XR_a (op_eqlB rfl rfl rfl) rfl rfl ?_
      refine XR_a (op_pick_f rfl rfl) rfl rfl ?_
      refine XR_nil ?_
      refine X_else rfl ?_
      refine X_skip ?_
      refine X_seq ?_
      refine X_seq ?_
      refine X_reg ?_
      refine XR_a (op_move rfl) rfl rfl ?_
      first | refine XR_a (op_notd rfl) rfl rfl ?_ | refine XR_a (op_not rfl) rfl rfl ?_
      refine XR_nil ?_
      refine X_then rfl ?_
      refine X_seq ?_
      refine X_reg ?_
      refine XR_a (op_move rfl) rfl rfl ?_
      refine XR_a (op_eql rfl rfl) rfl rfl ?_
      refine XR_a (op_move rfl) rfl rfl ?_
      refine XR_a (op_move rfl) rfl rfl ?_
      refine XR_a (op_eql rfl rfl) rfl rfl ?_
      refine XR_a (op_pick_t rfl rfl) rfl rfl ?_
      refine XR_a (op_move rfl) rfl rfl ?_
      refine XR_a (op_move rfl) rfl rfl ?_
      refine XR_a (op_len rfl rfl rfl) rfl rfl ?_
      refine XR_a (op_eql rfl rfl) rfl rfl ?_
      refine XR_a (op_pick_t rfl rfl) rfl rfl ?_
      refine XR_a (op_move rfl) rfl rfl ?_
      refine XR_wa (opl_call (lives08 _) rfl (by kernel_rfl)) rfl rfl rfl ?_
      rintro _ hp ⟨rfl, hx⟩
      refine XR_a (op_pick_t rfl rfl) rfl rfl ?_
      refine XR_a (op_assign rfl) rfl rfl ?_
      refine XR_nil ?_
      refine X_ret (.cons (.tmp rfl) .nil) ?_
      exact ⟨rfl, ((hx1.trans hx2).trans hx3).trans hx⟩
end Go.Bn
