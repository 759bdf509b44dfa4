/- The laws of costs, and of the least ones. -/
import Derived.Test.YtdiglnhhmbhhjaaLaw07b
set_option linter.unusedVariables false
set_option linter.unusedSimpArgs false
set_option maxHeartbeats 4000000
set_option maxRecDepth 20000
namespace Go.Bn
open Go Proofs

def okC (la lb : List Int) : Prop := la.length = lb.length ∧ boundedB 1073741824 la ∧ boundedB 15 lb
instance (la lb : List Int) : Decidable (okC la lb) := by unfold okC; infer_instance
def costI (la lb : List Int) : Nat := if okC la lb then costN (la.map Int.toNat) (lb.map Int.toNat) else 0
def costTo (ws ls : List Nat) (i : Nat) : Nat := ((List.range i).map fun s => ws.getD s 0 * ls.getD s 0).sum
theorem costTo_bd {ws ls : List Nat} (hw : ∀ s, ws.getD s 0 ≤ 1073741824) (hl : ∀ s, ls.getD s 0 ≤ 15) : ∀ i, costTo ws ls i ≤ i * 16106127360
  | 0 => by simp [costTo]
  | i + 1 => by
    have ih := costTo_bd hw hl i
    have h1 := Nat.mul_le_mul (hw i) (hl i)
    unfold costTo at *
    rw [sum_range_succ, Nat.add_mul]; omega
theorem getD_15 {li : List Int} (h : boundedB 15 li) (s : Nat) : (li.map Int.toNat).getD s 0 ≤ 15 := by
  rcases Nat.lt_or_ge s li.length with h1 | h1
  · have := (h.2 li[s] (List.getElem_mem h1)).2
    simp [List.getD, h1]; omega
  · simp [List.getD, h1]

theorem cost_spec {n c m d : Nat} {A B : Option Addr} {la lb : List Int} {h0 : Heap} (hr : Rd h0 A (la.map iV)) (hl : la.length = n) (hs : Rd h0 B (lb.map iV)) (hm : lb.length = m) (hn : n ≤ 17592186044416) (hmm : m ≤ 17592186044416) :
    Ret Try.prog 37 [.slice A n c, .slice B m d] h0 fun v h' => v = retVal [nV (costI la lb), .bool (decide (okC la lb))] ∧ Ext h0 h' := by
  refine ret_of_X Try.func37 rfl rfl fun w0 hw0 => ?_
  simp only [argE, Nat.zero_add, Nat.reduceAdd]
  refine X_seq ?_
  refine X_reg ?_
  refine XR_a (op_assign rfl) rfl rfl ?_
  by_cases hR : okC la lb
  · refine XR_a (op_assign rfl) rfl rfl ?_
    refine XR_nil ?_
    refine X_seq ?_
    refine X_seq ?_
    refine X_reg ?_
    refine XR_a (op_move rfl) rfl rfl ?_
    refine XR_a (op_len rfl rfl rfl) rfl rfl ?_
    refine XR_a (op_move rfl) rfl rfl ?_
    refine XR_a (op_len rfl rfl rfl) rfl rfl ?_
    refine XR_a (op_neq rfl rfl) rfl rfl ?_
    refine XR_as (.bool false) (congrArg Value.bool (decide_eq_false (by have := hR.1; omega))) ?_
    refine XR_a (op_move rfl) rfl rfl ?_
    refine XR_a (op_move rfl) rfl rfl ?_
    refine XR_wa (opl_call (wright_spec 1073741824 hr hl hn) rfl (by kernel_rfl)) rfl rfl rfl ?_
    rintro _ hp ⟨rfl, hx1⟩
    rw [decide_eq_true hR.2.1]
    first | refine XR_a (op_notd rfl) rfl rfl ?_ | refine XR_a (op_not rfl) rfl rfl ?_
    refine XR_a (op_pick_f rfl rfl) rfl rfl ?_
    refine XR_a (op_move rfl) rfl rfl ?_
    refine XR_a (op_move rfl) rfl rfl ?_
    refine XR_wa (opl_call (wright_spec 15 (hs.ext hx1) hm hmm) rfl (by kernel_rfl)) rfl rfl rfl ?_
    rintro _ hp ⟨rfl, hx2⟩
    rw [decide_eq_true hR.2.2]
    first | refine XR_a (op_notd rfl) rfl rfl ?_ | refine XR_a (op_not rfl) rfl rfl ?_
    refine XR_a (op_pick_f rfl rfl) rfl rfl ?_
    refine XR_nil ?_
    refine X_else rfl ?_
    refine X_skip ?_
    refine X_seq ?_
    refine X_reg ?_
    refine XR_a (op_assign rfl) rfl rfl ?_
    refine XR_nil ?_
    refine X_seq ?_
    refine X_seq ?_
    refine X_reg ?_
    refine XR_a (op_move rfl) rfl rfl ?_
    refine XR_a (op_len rfl rfl rfl) rfl rfl ?_
    refine XR_a (op_move rfl) rfl rfl ?_
    refine XR_nil ?_
    refine X_block ?_
    have hx := Ext.trans hx1 hx2
    have hn320 := hR.2.1.1
    have hln := hR.1
    have hr2 : Rd h0 A ((la.map Int.toNat).map nV) := by rw [← bounded_nat hR.2.1]; exact hr
    have hs2 : Rd h0 B ((lb.map Int.toNat).map nV) := by rw [← bounded_nat hR.2.2]; exact hs
    have hwb := wkey_bd hR.2.1
    have hlb := getD_15 hR.2.2
    have hcI : costI la lb = costTo (la.map Int.toNat) (lb.map Int.toNat) n := by
      unfold costI costN costTo
      rw [if_pos hR, List.length_map, hl]
    have hla : (la.map Int.toNat).length = n := by rw [List.length_map]; exact hl
    have hlbl : (lb.map Int.toNat).length = n := by rw [List.length_map]; omega
    rw [hcI, decide_eq_true hR]
    obtain ⟨ws, hws⟩ : ∃ ws, la.map Int.toNat = ws := ⟨_, rfl⟩
    obtain ⟨ls, hls⟩ : ∃ ls, lb.map Int.toNat = ls := ⟨_, rfl⟩
    rw [hws] at hr2 hwb hla
    rw [hls] at hs2 hlb hlbl
    rw [hws, hls]
    have hbd := costTo_bd hwb hlb
    obtain rfl : n = m := by omega
    refine X_loop (fun i => n - i) (fun i => [(0, .slice A n c), (1, .slice B n d), (6, nV (costTo ws ls i)), (24, nV n), (25, nV i)])
      (fun (i : Nat) hp' => Ext h0 hp' ∧ i ≤ n)
      0 (.cons rfl (.cons rfl (.cons rfl (.cons rfl (.cons rfl (.nil _)))))) ⟨hx, Nat.zero_le _⟩ ?_
    rintro i hp2 ⟨hx2, hi⟩
    refine X_seq ?_
    refine X_reg ?_
    refine XR_a (op_lss rfl rfl) rfl rfl ?_
    refine XR_nil ?_
    refine X_seq ?_
    refine X_if rfl (fun h => ?_) (fun h => ?_)
    · obtain ⟨gA, oA, rfl, hcA⟩ := hr2.at_ (by rw [List.length_map]; omega)
      obtain ⟨gB, oB, rfl, hcB⟩ := hs2.at_ (by rw [List.length_map]; omega)
      have hin : i < n := by omega
      have hAi := cellH_ext (a := ⟨gA, oA + i, none⟩) hx2 (hcA i (nV (ws.getD i 0)) (by simp [List.getD, hla, hin]))
      have hBi := cellH_ext (a := ⟨gB, oB + i, none⟩) hx2 (hcB i (nV (ls.getD i 0)) (by simp [List.getD, hlbl, hin]))
      have hb1 := hbd i
      have hb2 := Nat.mul_le_mul (hwb i) (hlb i)
      unfold wkey at hb2
      have hst : costTo ws ls (i + 1) = costTo ws ls i + ws.getD i 0 * ls.getD i 0 := sum_range_succ _ _
      refine X_skip ?_
      refine X_seq ?_
      refine X_block ?_
      refine X_seq ?_
      refine X_reg ?_
      refine XR_a (op_move rfl) rfl rfl ?_
      refine XR_a (op_assign rfl) rfl rfl ?_
      refine XR_nil ?_
      refine X_draw byKind (by kernel_rfl) (by kernel_rfl) ?_
      refine XR_a (op_move rfl) rfl rfl ?_
      refine XR_a (op_move rfl) rfl rfl ?_
      refine XR_a (op_move rfl) rfl rfl ?_
      first | refine XR_a (op_index1 rfl rfl rfl (by omega)) rfl rfl ?_ | refine XR_a (op_index rfl rfl rfl (by omega)) rfl rfl ?_
      refine XR_a (op_ld (hAi) rfl rfl rfl) rfl rfl ?_
      refine XR_a (op_move rfl) rfl rfl ?_
      refine XR_a (op_move rfl) rfl rfl ?_
      first | refine XR_a (op_index1 rfl rfl rfl (by omega)) rfl rfl ?_ | refine XR_a (op_index rfl rfl rfl (by omega)) rfl rfl ?_
      refine XR_a (op_ld (hBi) rfl rfl rfl) rfl rfl ?_
      refine XR_a (op_mulN rfl rfl (by simp only [inK]; omega)) rfl rfl ?_
      refine XR_a (op_addN rfl rfl (by simp only [inK]; omega)) rfl rfl ?_
      refine XR_a (op_assign rfl) rfl rfl ?_
      refine XR_nil ?_
      refine X_blk ?_
      refine X_reg ?_
      first | refine XR_a (op_addN (n := 1) rfl rfl (by simp only [inK]; omega)) rfl rfl ?_ | refine XR_a (op_addI rfl rfl (by simp only [inK]; omega)) rfl rfl ?_ | refine XR_a (op_add rfl rfl) rfl rfl ?_
      refine XR_a (op_move rfl) rfl rfl ?_
      refine XR_nil ?_
      exact X_again (i + 1) (.cons rfl (.cons rfl (.cons (by rw [hst]; rfl) (.cons rfl (.cons rfl (.nil _)))))) ⟨hx2, by omega⟩ (by omega)
    · refine X_exit rfl ?_
      refine X_seq ?_
      refine X_reg ?_
      refine XR_a (op_move rfl) rfl rfl ?_
      refine XR_a (op_assign rfl) rfl rfl ?_
      refine XR_a (op_assign rfl) rfl rfl ?_
      refine XR_nil ?_
      refine X_ret (.cons (.tmp rfl) (.cons (.tmp rfl) .nil)) ?_
      obtain rfl : i = n := by omega
      exact ⟨rfl, hx2⟩
  · refine XR_a (op_assign rfl) rfl rfl ?_
    refine XR_nil ?_
    refine X_seq ?_
    refine X_seq ?_
    refine X_reg ?_
    refine XR_a (op_move rfl) rfl rfl ?_
    refine XR_a (op_len rfl rfl rfl) rfl rfl ?_
    refine XR_a (op_move rfl) rfl rfl ?_
    refine XR_a (op_len rfl rfl rfl) rfl rfl ?_
    refine XR_a (op_neq rfl rfl) rfl rfl ?_
    refine XR_a (op_move rfl) rfl rfl ?_
    refine XR_if 13 rfl (fun h => ?_) (fun h => ?_)
    · refine XR_no rfl rfl ?_
      refine XR_no rfl rfl ?_
      refine XR_no rfl rfl ?_
      refine XR_a (op_pick_t rfl rfl) rfl rfl ?_
      refine XR_a (op_move rfl) rfl rfl ?_
      refine XR_no rfl rfl ?_
      refine XR_no rfl rfl ?_
      refine XR_no rfl rfl ?_
      refine XR_a (op_pick_t rfl rfl) rfl rfl ?_
      refine XR_nil ?_
      refine X_then rfl ?_
      refine X_seq ?_
      refine X_reg ?_
      refine XR_a (op_assign rfl) rfl rfl ?_
      refine XR_a (op_assign rfl) rfl rfl ?_
      refine XR_nil ?_
      refine X_ret (.cons (.tmp rfl) (.cons (.tmp rfl) .nil)) ?_
      refine ⟨?_, Ext.refl _⟩
      rw [decide_eq_false hR]; unfold costI; rw [if_neg hR]; rfl
    · have h13 := h
      refine XR_a (op_move rfl) rfl rfl ?_
      refine XR_wa (opl_call (wright_spec 1073741824 hr hl hn) rfl (by kernel_rfl)) rfl rfl rfl ?_
      rintro _ hp ⟨rfl, hx1⟩
      first | refine XR_a (op_notd rfl) rfl rfl ?_ | refine XR_a (op_not rfl) rfl rfl ?_
      refine XR_a (op_pick_f rfl rfl) rfl rfl ?_
      refine XR_a (op_move rfl) rfl rfl ?_
      refine XR_if 18 rfl (fun h => ?_) (fun h => ?_)
      · refine XR_no rfl rfl ?_
        refine XR_no rfl rfl ?_
        refine XR_no rfl rfl ?_
        refine XR_a (op_pick_t rfl rfl) rfl rfl ?_
        refine XR_nil ?_
        refine X_then rfl ?_
        refine X_seq ?_
        refine X_reg ?_
        refine XR_a (op_assign rfl) rfl rfl ?_
        refine XR_a (op_assign rfl) rfl rfl ?_
        refine XR_nil ?_
        refine X_ret (.cons (.tmp rfl) (.cons (.tmp rfl) .nil)) ?_
        refine ⟨?_, hx1⟩
        rw [decide_eq_false hR]; unfold costI; rw [if_neg hR]; rfl
      · have h18 := h
        refine XR_a (op_move rfl) rfl rfl ?_
        refine XR_wa (opl_call (wright_spec 15 (hs.ext hx1) hm hmm) rfl (by kernel_rfl)) rfl rfl rfl ?_
        rintro _ hp ⟨rfl, hx2⟩
        first | refine XR_a (op_notd rfl) rfl rfl ?_ | refine XR_a (op_not rfl) rfl rfl ?_
        refine XR_a (op_pick_f rfl rfl) rfl rfl ?_
        refine XR_nil ?_
        refine X_if rfl (fun h => ?_) (fun h => ?_)
        · refine X_seq ?_
          refine X_reg ?_
          refine XR_a (op_assign rfl) rfl rfl ?_
          refine XR_a (op_assign rfl) rfl rfl ?_
          refine XR_nil ?_
          refine X_ret (.cons (.tmp rfl) (.cons (.tmp rfl) .nil)) ?_
          refine ⟨?_, Ext.trans hx1 hx2⟩
          rw [decide_eq_false hR]; unfold costI; rw [if_neg hR]; rfl
        · exact absurd (show okC la lb from ⟨by omega, Decidable.not_not.1 h18, Decidable.not_not.1 h⟩) hR

/-- The greatest of numbers; 0 where there is none. -/
def mxI : List Int → Int
  | [] => 0
  | x :: r => r.foldl max x
theorem mxI_snoc (x : Int) (r : List Int) (y : Int) : mxI ((x :: r) ++ [y]) = max (mxI (x :: r)) y := by simp [mxI]
theorem mxI_succ {li : List Int} {i : Nat} (h : i < li.length) (h0 : i ≠ 0) : mxI (li.take (i + 1)) = max (mxI (li.take i)) li[i] := by
  rw [List.take_succ_eq_append_getElem h]
  cases li with
  | nil => simp at h
  | cons x r =>
    obtain ⟨k, rfl⟩ : ∃ k, i = k + 1 := ⟨i - 1, by omega⟩
    rw [List.take_succ_cons]; exact mxI_snoc _ _ _
theorem mxI_one {li : List Int} (h : 0 < li.length) : mxI (li.take 1) = li[0] := by
  cases li with
  | nil => simp at h
  | cons x r => simp [mxI]

theorem max_spec {n c : Nat} {A : Option Addr} {li : List Int} {h0 : Heap} (hr : Rd h0 A (li.map iV)) (hl : li.length = n) (hn : n ≤ 17592186044416) (h1 : 1 ≤ n) :
    Ret Try.prog 76 [.slice A n c] h0 fun v h' => v = .int .i64 (mxI li) ∧ h0 = h' := by
  obtain ⟨g, o, rfl, hc⟩ := hr.at_ (by rw [List.length_map]; omega)
  have hci : ∀ i (hi : i < li.length), cellH h0 ⟨g, o + i, none⟩ = some (iV li[i]) := fun i hi => hc i _ (by simp [hi])
  refine ret_of_X Try.func76 rfl rfl fun w0 hw0 => ?_
  simp only [argE, Nat.zero_add, Nat.reduceAdd]
  refine X_seq ?_
  refine X_reg ?_
  refine XR_a (op_assign rfl) rfl rfl ?_
  refine XR_nil ?_
  refine X_seq ?_
  refine X_seq ?_
  refine X_reg ?_
  refine XR_a (op_move rfl) rfl rfl ?_
  refine XR_a (op_len rfl rfl rfl) rfl rfl ?_
  refine XR_a (op_lss rfl rfl) rfl rfl ?_
  refine XR_nil ?_
  refine X_if rfl (fun h => ?_) (fun h => ?_)
  · exact absurd h (by omega)
  · refine X_skip ?_
    refine X_seq ?_
    refine X_reg ?_
    refine XR_a (op_move rfl) rfl rfl ?_
    refine XR_a (op_index1 (i := 0) rfl rfl rfl (by omega)) rfl rfl ?_
    refine XR_a (op_ld (hci 0 (by omega)) rfl rfl rfl) rfl rfl ?_
    refine XR_a (op_assign rfl) rfl rfl ?_
    refine XR_nil ?_
    refine X_seq ?_
    refine X_seq ?_
    refine X_reg ?_
    refine XR_a (op_assign rfl) rfl rfl ?_
    refine XR_nil ?_
    refine X_block ?_
    refine X_loop (fun i => n - i) (fun i => [(0, .slice (some ⟨g, o, none⟩) n c), (3, .int .i64 (mxI (li.take i))), (4, nV i)])
      (fun (i : Nat) hp => h0 = hp ∧ 1 ≤ i ∧ i ≤ n)
      1 (.cons rfl (.cons (by rw [mxI_one (by omega)]; rfl) (.cons rfl (.nil _)))) ⟨rfl, by omega, by omega⟩ ?_
    rintro i hp ⟨rfl, hi1, hi⟩
    refine X_seq ?_
    refine X_seq ?_
    refine X_reg ?_
    refine XR_a (op_move rfl) rfl rfl ?_
    refine XR_a (op_move rfl) rfl rfl ?_
    refine XR_a (op_len rfl rfl rfl) rfl rfl ?_
    refine XR_a (op_lss rfl rfl) rfl rfl ?_
    refine XR_nil ?_
    refine X_if rfl (fun h => ?_) (fun h => ?_)
    · have hst := mxI_succ (li := li) (i := i) (by omega) (by omega)
      refine X_skip ?_
      refine X_seq ?_
      refine X_block ?_
      refine X_reg ?_
      refine XR_a (op_move rfl) rfl rfl ?_
      refine XR_a (op_move rfl) rfl rfl ?_
      refine XR_a (op_move rfl) rfl rfl ?_
      first | refine XR_a (op_index1 rfl rfl rfl (by omega)) rfl rfl ?_ | refine XR_a (op_index rfl rfl rfl (by omega)) rfl rfl ?_
      refine XR_a (op_ld (hci i (by omega)) rfl rfl rfl) rfl rfl ?_
      refine XR_a (op_max2 rfl rfl) rfl rfl ?_
      refine XR_a (op_assign rfl) rfl rfl ?_
      refine XR_nil ?_
      refine X_blk ?_
      refine X_reg ?_
      refine XR_a (op_move rfl) rfl rfl ?_
      first | refine XR_a (op_addN (n := 1) rfl rfl (by simp only [inK]; omega)) rfl rfl ?_ | refine XR_a (op_addI rfl rfl (by simp only [inK]; omega)) rfl rfl ?_ | refine XR_a (op_add rfl rfl) rfl rfl ?_
      refine XR_a (op_assign rfl) rfl rfl ?_
      refine XR_nil ?_
      exact X_again (i + 1) (.cons rfl (.cons (by rw [hst]; rfl) (.cons rfl (.nil _)))) ⟨rfl, by omega, by omega⟩ (by omega)
    · refine X_exit rfl ?_
      refine X_seq ?_
      refine X_reg ?_
      refine XR_a (op_move rfl) rfl rfl ?_
      refine XR_a (op_assign rfl) rfl rfl ?_
      refine XR_nil ?_
      refine X_ret (.cons (.tmp rfl) .nil) ?_
      rw [List.take_of_length_le (by omega)]
      exact ⟨rfl, rfl⟩
theorem longest_spec {n c : Nat} {A : Option Addr} {li : List Int} {h0 : Heap} (hr : Rd h0 A (li.map iV)) (hl : li.length = n) (hn : n ≤ 17592186044416) :
    Ret Try.prog 39 [.slice A n c] h0 fun v h' => v = .int .i64 (mxI li) ∧ h0 = h' := by
  refine ret_of_X Try.func39 rfl rfl fun w0 hw0 => ?_
  simp only [argE, Nat.zero_add, Nat.reduceAdd]
  refine X_seq ?_
  refine X_reg ?_
  refine XR_a (op_assign rfl) rfl rfl ?_
  refine XR_nil ?_
  refine X_seq ?_
  refine X_seq ?_
  refine X_reg ?_
  refine XR_a (op_move rfl) rfl rfl ?_
  refine XR_a (op_len rfl rfl rfl) rfl rfl ?_
  refine XR_a (op_eql rfl rfl) rfl rfl ?_
  refine XR_nil ?_
  refine X_if rfl (fun h => ?_) (fun h => ?_)
  · refine X_seq ?_
    refine X_reg ?_
    refine XR_a (op_assign rfl) rfl rfl ?_
    refine XR_nil ?_
    refine X_ret (.cons (.tmp rfl) .nil) ?_
    obtain rfl : li = [] := List.eq_nil_of_length_eq_zero (by omega)
    exact ⟨rfl, rfl⟩
  · refine X_skip ?_
    refine X_seq ?_
    refine X_reg ?_
    refine XR_a (op_move rfl) rfl rfl ?_
    refine XR_wa (opl_call (max_spec hr hl hn (by omega)) rfl (by kernel_rfl)) rfl rfl rfl ?_
    rintro _ _ ⟨rfl, rfl⟩
    refine XR_a (op_assign rfl) rfl rfl ?_
    refine XR_nil ?_
    refine X_ret (.cons (.tmp rfl) .nil) ?_
    exact ⟨rfl, rfl⟩

theorem weighCosts_ret {n c m d : Nat} {A B : Option Addr} {la lb : List Int} {h0 : Heap} (hr : Rd h0 A (la.map iV)) (hl : la.length = n) (hs : Rd h0 B (lb.map iV)) (hm : lb.length = m) (hn : n ≤ 17592186044416) (hmm : m ≤ 17592186044416) :
    Ret Try.prog 11 [.slice A n c, .slice B m d] h0 fun v h' => v = .bool true ∧ Ext h0 h' := by
  refine ret_of_X Try.func11 rfl rfl fun w0 hw0 => ?_
  simp only [argE, Nat.zero_add, Nat.reduceAdd]
  refine X_seq ?_
  refine X_reg ?_
  refine XR_a (op_assign rfl) rfl rfl ?_
  by_cases hR : boundedB 15 lb
  · refine XR_nil ?_
    refine X_seq ?_
    refine X_seq ?_
    refine X_reg ?_
    refine XR_a (op_move rfl) rfl rfl ?_
    refine XR_a (op_len rfl rfl rfl) rfl rfl ?_
    refine XR_a (op_gtr rfl rfl) rfl rfl ?_
    refine XR_a (op_move rfl) rfl rfl ?_
    refine XR_if 14 rfl (fun h => ?_) (fun h => ?_)
    · refine XR_no rfl rfl ?_
      refine XR_no rfl rfl ?_
      refine XR_no rfl rfl ?_
      refine XR_a (op_pick_t rfl rfl) rfl rfl ?_
      refine XR_nil ?_
      refine X_then rfl ?_
      refine X_seq ?_
      refine X_reg ?_
      refine XR_wa (opl_call (lives07 h0) rfl (by kernel_rfl)) rfl rfl rfl ?_
      rintro _ hp ⟨rfl, hx⟩
      refine XR_a (op_assign rfl) rfl rfl ?_
      refine XR_nil ?_
      refine X_ret (.cons (.tmp rfl) .nil) ?_
      exact ⟨rfl, hx⟩
    · refine XR_a (op_move rfl) rfl rfl ?_
      refine XR_a (op_len rfl rfl rfl) rfl rfl ?_
      refine XR_a (op_gtr rfl rfl) rfl rfl ?_
      refine XR_a (op_pick_f rfl rfl) rfl rfl ?_
      refine XR_nil ?_
      refine X_if rfl (fun h => ?_) (fun h => ?_)
      · refine X_seq ?_
        refine X_reg ?_
        refine XR_wa (opl_call (lives07 h0) rfl (by kernel_rfl)) rfl rfl rfl ?_
        rintro _ hp ⟨rfl, hx⟩
        refine XR_a (op_assign rfl) rfl rfl ?_
        refine XR_nil ?_
        refine X_ret (.cons (.tmp rfl) .nil) ?_
        exact ⟨rfl, hx⟩
      · refine X_skip ?_
        refine X_seq ?_
        refine X_reg ?_
        refine XR_a (op_move rfl) rfl rfl ?_
        refine XR_a (op_move rfl) rfl rfl ?_
        refine XR_wa (opl_call (cost_spec hr hl hs hm hn hmm) rfl (by kernel_rfl)) rfl rfl rfl ?_
        rintro _ hp1 ⟨rfl, hx1⟩
        refine XR_a (op_move rfl) rfl rfl ?_
        refine XR_a (op_extract rfl rfl) rfl rfl ?_
        refine XR_a (op_extract rfl rfl) rfl rfl ?_
        refine XR_a (op_assign rfl) rfl rfl ?_
        refine XR_a (op_assign rfl) rfl rfl ?_
        refine XR_nil ?_
        refine X_seq ?_
        refine X_reg ?_
        refine XR_a (op_move rfl) rfl rfl ?_
        refine XR_wa (opl_call (right_ref 15 (hs.ext hx1) hm hmm) rfl (by kernel_rfl)) rfl rfl rfl ?_
        rintro _ hp2 ⟨rfl, rfl⟩
        rw [decide_eq_true hR]
        refine XR_a (op_assign rfl) rfl rfl ?_
        refine XR_nil ?_
        refine X_seq ?_
        refine X_seq ?_
        refine X_reg ?_
        refine XR_a (op_move rfl) rfl rfl ?_
        refine XR_wa (opl_call (wfull_any (hs.ext hx1) hm hmm) rfl (by kernel_rfl)) rfl rfl rfl ?_
        rintro _ hp3 ⟨rfl, hx3⟩
        replace hx1 := Ext.trans hx1 hx3
        refine XR_a (op_move rfl) rfl rfl ?_
        refine XR_a (op_move rfl) rfl rfl ?_
        refine XR_a (op_move rfl) rfl rfl ?_
        refine XR_wa (opl_call (sum_ref (ls := lb.map Int.toNat) (by rw [← bounded_nat hR]; exact hs.ext hx1) (by rw [List.length_map]; exact hm) (by have := hR.1; omega) (fun x hx => by obtain ⟨y, hy, rfl⟩ := List.mem_map.1 hx; have := hR.2 y hy; omega)) rfl (by kernel_rfl)) rfl rfl rfl ?_
        rintro _ _ ⟨rfl, rfl⟩
        refine XR_a (op_eql rfl rfl) rfl rfl ?_
        refine XR_a (op_pick_t rfl rfl) rfl rfl ?_
        refine XR_a (op_neqB rfl rfl rfl) rfl rfl ?_
        refine XR_as (.bool false) (congrArg Value.bool (decide_eq_false fun hh => hh (decide_eq_decide.2 ⟨fun k => by have := k.2; omega, fun k => ⟨hR, by omega⟩⟩))) ?_
        refine XR_a (op_move rfl) rfl rfl ?_
        refine XR_a (op_move rfl) rfl rfl ?_
        refine XR_a (op_move rfl) rfl rfl ?_
        refine XR_a (op_move rfl) rfl rfl ?_
        refine XR_a (op_move rfl) rfl rfl ?_
        refine XR_a (op_len rfl rfl rfl) rfl rfl ?_
        refine XR_a (op_move rfl) rfl rfl ?_
        refine XR_a (op_len rfl rfl rfl) rfl rfl ?_
        refine XR_a (op_eql rfl rfl) rfl rfl ?_
        refine XR_a (op_pick_t rfl rfl) rfl rfl ?_
        refine XR_a (op_move rfl) rfl rfl ?_
        refine XR_if 47 rfl (fun h => ?_) (fun h => ?_)
        · have h47 := h
          refine XR_a (op_move rfl) rfl rfl ?_
          refine XR_wa (opl_call (right_ref 1073741824 (hr.ext hx1) hl hn) rfl (by kernel_rfl)) rfl rfl rfl ?_
          rintro _ hp4 ⟨rfl, rfl⟩
          refine XR_a (op_pick_t rfl rfl) rfl rfl ?_
          refine XR_a (op_neqB rfl rfl rfl) rfl rfl ?_
          refine XR_as (.bool false) (congrArg Value.bool (decide_eq_false fun hh => hh (decide_eq_decide.2 ⟨fun k => k.2.1, fun k => ⟨by omega, k, hR⟩⟩))) ?_
          refine XR_a (op_pick_f rfl rfl) rfl rfl ?_
          refine XR_nil ?_
          refine X_else rfl ?_
          refine X_skip ?_
          refine X_seq ?_
          refine X_reg ?_
          refine XR_a (op_assign rfl) rfl rfl ?_
          refine XR_a (op_assign rfl) rfl rfl ?_
          refine XR_nil ?_
          refine X_seq ?_
          refine X_seq ?_
          refine X_reg ?_
          refine XR_a (op_assign rfl) rfl rfl ?_
          refine XR_nil ?_
          refine X_block ?_
          refine X_loop (fun i => m - i) (fun i => [(0, .slice A n c), (1, .slice B m d), (5, nV (costI la lb)), (6, .bool (decide (okC la lb))), (8, nV (if okC la lb then costTo (la.map Int.toNat) (lb.map Int.toNat) i else 0)), (9, .int .i64 (mxI (lb.take i))), (10, nV i)])
            (fun (i : Nat) hp' => Ext h0 hp' ∧ i ≤ m)
            0 (.cons rfl (.cons rfl (.cons rfl (.cons rfl (.cons (by split <;> rfl) (.cons (by rw [List.take_zero]; rfl) (.cons rfl (.nil _)))))))) ⟨hx1, Nat.zero_le _⟩ ?_
          rintro i hp5 ⟨hx5, hi⟩
          refine X_seq ?_
          refine X_seq ?_
          refine X_reg ?_
          refine XR_a (op_move rfl) rfl rfl ?_
          refine XR_a (op_move rfl) rfl rfl ?_
          refine XR_a (op_len rfl rfl rfl) rfl rfl ?_
          refine XR_a (op_lss rfl rfl) rfl rfl ?_
          refine XR_nil ?_
          refine X_if rfl (fun h => ?_) (fun h => ?_)
          · have him : i < lb.length := by omega
            obtain ⟨gB, oB, rfl, hcB⟩ := hs.at_ (by rw [List.length_map]; omega)
            have hBi := cellH_ext (a := ⟨gB, oB + i, none⟩) hx5 (hcB i (iV lb[i]) (by simp [him]))
            refine X_skip ?_
            refine X_seq ?_
            refine X_block ?_
            refine X_seq ?_
            refine X_seq ?_
            refine X_reg ?_
            refine XR_a (op_move rfl) rfl rfl ?_
            refine XR_a (op_eql rfl rfl) rfl rfl ?_
            refine XR_a (op_move rfl) rfl rfl ?_
            refine XR_if 61 rfl (fun h => ?_) (fun h => ?_)
            · have hmx2 : mxI (lb.take (i + 1)) = lb[i] := by
                have hi0 : i = 0 := by omega
                subst hi0
                exact mxI_one him
              refine XR_no rfl rfl ?_
              refine XR_no rfl rfl ?_
              refine XR_no rfl rfl ?_
              refine XR_no rfl rfl ?_
              refine XR_no rfl rfl ?_
              refine XR_no rfl rfl ?_
              refine XR_a (op_pick_t rfl rfl) rfl rfl ?_
              refine XR_nil ?_
              refine X_then rfl ?_
              refine X_reg ?_
              refine XR_a (op_move rfl) rfl rfl ?_
              refine XR_a (op_move rfl) rfl rfl ?_
              first | refine XR_a (op_index1 rfl rfl rfl (by omega)) rfl rfl ?_ | refine XR_a (op_index rfl rfl rfl (by omega)) rfl rfl ?_
              refine XR_a (op_ld (hBi) rfl rfl rfl) rfl rfl ?_
              refine XR_a (op_assign rfl) rfl rfl ?_
              refine XR_nil ?_
              refine X_seq ?_
              refine X_reg ?_
              refine XR_a (op_move rfl) rfl rfl ?_
              refine XR_nil ?_
              refine X_if rfl (fun h => ?_) (fun h => ?_)
              · obtain ⟨k1, k2, k3⟩ := h
                obtain ⟨gA, oA, rfl, hcA⟩ := hr.at_ (by rw [List.length_map]; omega)
                have hia : i < la.length := by omega
                have hAi := cellH_ext (a := ⟨gA, oA + i, none⟩) hx5 (hcA i (iV la[i]) (by simp [hia]))
                have ha0 := k2.2 _ (List.getElem_mem hia)
                have hb0 := k3.2 _ (List.getElem_mem him)
                have hok : okC la lb := ⟨k1, k2, k3⟩
                have hbd := costTo_bd (ls := lb.map Int.toNat) (wkey_bd k2) (getD_15 k3) i
                have hst : costTo (la.map Int.toNat) (lb.map Int.toNat) (i + 1) = costTo (la.map Int.toNat) (lb.map Int.toNat) i + la[i].toNat * lb[i].toNat := by
                  unfold costTo
                  rw [sum_range_succ]
                  congr 2
                  · simp [List.getD, hia]
                  · simp [List.getD, him]
                have hp1 : la[i] * lb[i] = ((la[i].toNat * lb[i].toNat : Nat) : Int) := by
                  rw [Int.natCast_mul, Int.toNat_of_nonneg (by omega), Int.toNat_of_nonneg (by omega)]
                have hp2 : la[i].toNat * lb[i].toNat ≤ 1073741824 * 15 := Nat.mul_le_mul (by omega) (by omega)
                have hn320 := k2.1
                simp only [if_pos hok]
                refine X_draw byKind (by kernel_rfl) (by kernel_rfl) ?_
                refine XR_a (op_move rfl) rfl rfl ?_
                refine XR_a (op_move rfl) rfl rfl ?_
                refine XR_a (op_move rfl) rfl rfl ?_
                first | refine XR_a (op_index1 rfl rfl rfl (by omega)) rfl rfl ?_ | refine XR_a (op_index rfl rfl rfl (by omega)) rfl rfl ?_
                refine XR_a (op_ld (hAi) rfl rfl rfl) rfl rfl ?_
                refine XR_a (op_move rfl) rfl rfl ?_
                refine XR_a (op_move rfl) rfl rfl ?_
                first | refine XR_a (op_index1 rfl rfl rfl (by omega)) rfl rfl ?_ | refine XR_a (op_index rfl rfl rfl (by omega)) rfl rfl ?_
                refine XR_a (op_ld (hBi) rfl rfl rfl) rfl rfl ?_
                refine XR_a (op_mulI rfl rfl (by rw [hp1]; simp only [inK]; omega)) rfl rfl ?_
                rw [hp1]
                refine XR_a (op_addN (m := costTo (la.map Int.toNat) (lb.map Int.toNat) i) (n := la[i].toNat * lb[i].toNat) rfl rfl (by simp only [inK]; omega)) rfl rfl ?_
                refine XR_a (op_assign rfl) rfl rfl ?_
                refine XR_nil ?_
                refine X_blk ?_
                refine X_reg ?_
                refine XR_a (op_move rfl) rfl rfl ?_
                first | refine XR_a (op_addN (n := 1) rfl rfl (by simp only [inK]; omega)) rfl rfl ?_ | refine XR_a (op_addI rfl rfl (by simp only [inK]; omega)) rfl rfl ?_ | refine XR_a (op_add rfl rfl) rfl rfl ?_
                refine XR_a (op_assign rfl) rfl rfl ?_
                refine XR_nil ?_
                exact X_again (i + 1) (.cons rfl (.cons rfl (.cons rfl (.cons rfl (.cons (by rw [hst]; rfl) (.cons (by rw [hmx2]; rfl) (.cons rfl (.nil _)))))))) ⟨hx5, by omega⟩ (by omega)
              · refine X_skip ?_
                refine X_blk ?_
                refine X_reg ?_
                refine XR_a (op_move rfl) rfl rfl ?_
                first | refine XR_a (op_addN (n := 1) rfl rfl (by simp only [inK]; omega)) rfl rfl ?_ | refine XR_a (op_addI rfl rfl (by simp only [inK]; omega)) rfl rfl ?_ | refine XR_a (op_add rfl rfl) rfl rfl ?_
                refine XR_a (op_assign rfl) rfl rfl ?_
                refine XR_nil ?_
                exact X_again (i + 1) (.cons rfl (.cons rfl (.cons rfl (.cons rfl (.cons (by rw [if_neg h, if_neg h]; rfl) (.cons (by rw [hmx2]; rfl) (.cons rfl (.nil _)))))))) ⟨hx5, by omega⟩ (by omega)
            · have h61 := h
              have hmx := mxI_succ him (by omega)
              refine XR_a (op_move rfl) rfl rfl ?_
              refine XR_a (op_move rfl) rfl rfl ?_
              first | refine XR_a (op_index1 rfl rfl rfl (by omega)) rfl rfl ?_ | refine XR_a (op_index rfl rfl rfl (by omega)) rfl rfl ?_
              refine XR_a (op_ld (hBi) rfl rfl rfl) rfl rfl ?_
              refine XR_a (op_move rfl) rfl rfl ?_
              refine XR_a (op_gtr rfl rfl) rfl rfl ?_
              refine XR_a (op_pick_f rfl rfl) rfl rfl ?_
              refine XR_nil ?_
              refine X_if rfl (fun h => ?_) (fun h => ?_)
              · have h4 := h
                have hmx2 : mxI (lb.take (i + 1)) = lb[i] := by rw [hmx]; omega
                refine X_reg ?_
                refine XR_a (op_move rfl) rfl rfl ?_
                refine XR_a (op_move rfl) rfl rfl ?_
                first | refine XR_a (op_index1 rfl rfl rfl (by omega)) rfl rfl ?_ | refine XR_a (op_index rfl rfl rfl (by omega)) rfl rfl ?_
                refine XR_a (op_ld (hBi) rfl rfl rfl) rfl rfl ?_
                refine XR_a (op_assign rfl) rfl rfl ?_
                refine XR_nil ?_
                refine X_seq ?_
                refine X_reg ?_
                refine XR_a (op_move rfl) rfl rfl ?_
                refine XR_nil ?_
                refine X_if rfl (fun h => ?_) (fun h => ?_)
                · obtain ⟨k1, k2, k3⟩ := h
                  obtain ⟨gA, oA, rfl, hcA⟩ := hr.at_ (by rw [List.length_map]; omega)
                  have hia : i < la.length := by omega
                  have hAi := cellH_ext (a := ⟨gA, oA + i, none⟩) hx5 (hcA i (iV la[i]) (by simp [hia]))
                  have ha0 := k2.2 _ (List.getElem_mem hia)
                  have hb0 := k3.2 _ (List.getElem_mem him)
                  have hok : okC la lb := ⟨k1, k2, k3⟩
                  have hbd := costTo_bd (ls := lb.map Int.toNat) (wkey_bd k2) (getD_15 k3) i
                  have hst : costTo (la.map Int.toNat) (lb.map Int.toNat) (i + 1) = costTo (la.map Int.toNat) (lb.map Int.toNat) i + la[i].toNat * lb[i].toNat := by
                    unfold costTo
                    rw [sum_range_succ]
                    congr 2
                    · simp [List.getD, hia]
                    · simp [List.getD, him]
                  have hp1 : la[i] * lb[i] = ((la[i].toNat * lb[i].toNat : Nat) : Int) := by
                    rw [Int.natCast_mul, Int.toNat_of_nonneg (by omega), Int.toNat_of_nonneg (by omega)]
                  have hp2 : la[i].toNat * lb[i].toNat ≤ 1073741824 * 15 := Nat.mul_le_mul (by omega) (by omega)
                  have hn320 := k2.1
                  simp only [if_pos hok]
                  refine X_draw byKind (by kernel_rfl) (by kernel_rfl) ?_
                  refine XR_a (op_move rfl) rfl rfl ?_
                  refine XR_a (op_move rfl) rfl rfl ?_
                  refine XR_a (op_move rfl) rfl rfl ?_
                  first | refine XR_a (op_index1 rfl rfl rfl (by omega)) rfl rfl ?_ | refine XR_a (op_index rfl rfl rfl (by omega)) rfl rfl ?_
                  refine XR_a (op_ld (hAi) rfl rfl rfl) rfl rfl ?_
                  refine XR_a (op_move rfl) rfl rfl ?_
                  refine XR_a (op_move rfl) rfl rfl ?_
                  first | refine XR_a (op_index1 rfl rfl rfl (by omega)) rfl rfl ?_ | refine XR_a (op_index rfl rfl rfl (by omega)) rfl rfl ?_
                  refine XR_a (op_ld (hBi) rfl rfl rfl) rfl rfl ?_
                  refine XR_a (op_mulI rfl rfl (by rw [hp1]; simp only [inK]; omega)) rfl rfl ?_
                  rw [hp1]
                  refine XR_a (op_addN (m := costTo (la.map Int.toNat) (lb.map Int.toNat) i) (n := la[i].toNat * lb[i].toNat) rfl rfl (by simp only [inK]; omega)) rfl rfl ?_
                  refine XR_a (op_assign rfl) rfl rfl ?_
                  refine XR_nil ?_
                  refine X_blk ?_
                  refine X_reg ?_
                  refine XR_a (op_move rfl) rfl rfl ?_
                  first | refine XR_a (op_addN (n := 1) rfl rfl (by simp only [inK]; omega)) rfl rfl ?_ | refine XR_a (op_addI rfl rfl (by simp only [inK]; omega)) rfl rfl ?_ | refine XR_a (op_add rfl rfl) rfl rfl ?_
                  refine XR_a (op_assign rfl) rfl rfl ?_
                  refine XR_nil ?_
                  exact X_again (i + 1) (.cons rfl (.cons rfl (.cons rfl (.cons rfl (.cons (by rw [hst]; rfl) (.cons (by rw [hmx2]; rfl) (.cons rfl (.nil _)))))))) ⟨hx5, by omega⟩ (by omega)
                · refine X_skip ?_
                  refine X_blk ?_
                  refine X_reg ?_
                  refine XR_a (op_move rfl) rfl rfl ?_
                  first | refine XR_a (op_addN (n := 1) rfl rfl (by simp only [inK]; omega)) rfl rfl ?_ | refine XR_a (op_addI rfl rfl (by simp only [inK]; omega)) rfl rfl ?_ | refine XR_a (op_add rfl rfl) rfl rfl ?_
                  refine XR_a (op_assign rfl) rfl rfl ?_
                  refine XR_nil ?_
                  exact X_again (i + 1) (.cons rfl (.cons rfl (.cons rfl (.cons rfl (.cons (by rw [if_neg h, if_neg h]; rfl) (.cons (by rw [hmx2]; rfl) (.cons rfl (.nil _)))))))) ⟨hx5, by omega⟩ (by omega)
              · have h4 := h
                have hmx2 : mxI (lb.take (i + 1)) = mxI (lb.take i) := by rw [hmx]; omega
                refine X_skip ?_
                refine X_seq ?_
                refine X_reg ?_
                refine XR_a (op_move rfl) rfl rfl ?_
                refine XR_nil ?_
                refine X_if rfl (fun h => ?_) (fun h => ?_)
                · obtain ⟨k1, k2, k3⟩ := h
                  obtain ⟨gA, oA, rfl, hcA⟩ := hr.at_ (by rw [List.length_map]; omega)
                  have hia : i < la.length := by omega
                  have hAi := cellH_ext (a := ⟨gA, oA + i, none⟩) hx5 (hcA i (iV la[i]) (by simp [hia]))
                  have ha0 := k2.2 _ (List.getElem_mem hia)
                  have hb0 := k3.2 _ (List.getElem_mem him)
                  have hok : okC la lb := ⟨k1, k2, k3⟩
                  have hbd := costTo_bd (ls := lb.map Int.toNat) (wkey_bd k2) (getD_15 k3) i
                  have hst : costTo (la.map Int.toNat) (lb.map Int.toNat) (i + 1) = costTo (la.map Int.toNat) (lb.map Int.toNat) i + la[i].toNat * lb[i].toNat := by
                    unfold costTo
                    rw [sum_range_succ]
                    congr 2
                    · simp [List.getD, hia]
                    · simp [List.getD, him]
                  have hp1 : la[i] * lb[i] = ((la[i].toNat * lb[i].toNat : Nat) : Int) := by
                    rw [Int.natCast_mul, Int.toNat_of_nonneg (by omega), Int.toNat_of_nonneg (by omega)]
                  have hp2 : la[i].toNat * lb[i].toNat ≤ 1073741824 * 15 := Nat.mul_le_mul (by omega) (by omega)
                  have hn320 := k2.1
                  simp only [if_pos hok]
                  refine X_draw byKind (by kernel_rfl) (by kernel_rfl) ?_
                  refine XR_a (op_move rfl) rfl rfl ?_
                  refine XR_a (op_move rfl) rfl rfl ?_
                  refine XR_a (op_move rfl) rfl rfl ?_
                  first | refine XR_a (op_index1 rfl rfl rfl (by omega)) rfl rfl ?_ | refine XR_a (op_index rfl rfl rfl (by omega)) rfl rfl ?_
                  refine XR_a (op_ld (hAi) rfl rfl rfl) rfl rfl ?_
                  refine XR_a (op_move rfl) rfl rfl ?_
                  refine XR_a (op_move rfl) rfl rfl ?_
                  first | refine XR_a (op_index1 rfl rfl rfl (by omega)) rfl rfl ?_ | refine XR_a (op_index rfl rfl rfl (by omega)) rfl rfl ?_
                  refine XR_a (op_ld (hBi) rfl rfl rfl) rfl rfl ?_
                  refine XR_a (op_mulI rfl rfl (by rw [hp1]; simp only [inK]; omega)) rfl rfl ?_
                  rw [hp1]
                  refine XR_a (op_addN (m := costTo (la.map Int.toNat) (lb.map Int.toNat) i) (n := la[i].toNat * lb[i].toNat) rfl rfl (by simp only [inK]; omega)) rfl rfl ?_
                  refine XR_a (op_assign rfl) rfl rfl ?_
                  refine XR_nil ?_
                  refine X_blk ?_
                  refine X_reg ?_
                  refine XR_a (op_move rfl) rfl rfl ?_
                  first | refine XR_a (op_addN (n := 1) rfl rfl (by simp only [inK]; omega)) rfl rfl ?_ | refine XR_a (op_addI rfl rfl (by simp only [inK]; omega)) rfl rfl ?_ | refine XR_a (op_add rfl rfl) rfl rfl ?_
                  refine XR_a (op_assign rfl) rfl rfl ?_
                  refine XR_nil ?_
                  exact X_again (i + 1) (.cons rfl (.cons rfl (.cons rfl (.cons rfl (.cons (by rw [hst]; rfl) (.cons (by rw [hmx2]; rfl) (.cons rfl (.nil _)))))))) ⟨hx5, by omega⟩ (by omega)
                · refine X_skip ?_
                  refine X_blk ?_
                  refine X_reg ?_
                  refine XR_a (op_move rfl) rfl rfl ?_
                  first | refine XR_a (op_addN (n := 1) rfl rfl (by simp only [inK]; omega)) rfl rfl ?_ | refine XR_a (op_addI rfl rfl (by simp only [inK]; omega)) rfl rfl ?_ | refine XR_a (op_add rfl rfl) rfl rfl ?_
                  refine XR_a (op_assign rfl) rfl rfl ?_
                  refine XR_nil ?_
                  exact X_again (i + 1) (.cons rfl (.cons rfl (.cons rfl (.cons rfl (.cons (by rw [if_neg h, if_neg h]; rfl) (.cons (by rw [hmx2]; rfl) (.cons rfl (.nil _)))))))) ⟨hx5, by omega⟩ (by omega)
          · have hie : i = m := by omega
            have hfin : costI la lb = (if okC la lb then costTo (la.map Int.toNat) (lb.map Int.toNat) i else 0) := by
              unfold costI costN costTo
              by_cases hok : okC la lb
              · rw [if_pos hok, if_pos hok, List.length_map, hok.1, hm, hie]
              · rw [if_neg hok, if_neg hok]
            rw [List.take_of_length_le (by omega)]
            refine X_exit rfl ?_
            refine X_seq ?_
            refine X_reg ?_
            refine XR_a (op_move rfl) rfl rfl ?_
            refine XR_a (op_move rfl) rfl rfl ?_
            refine XR_a (op_eql rfl rfl) rfl rfl ?_
            refine XR_as (.bool true) (congrArg Value.bool (decide_eq_true (by rw [hfin]))) ?_
            refine XR_a (op_move rfl) rfl rfl ?_
            refine XR_a (op_move rfl) rfl rfl ?_
            refine XR_wa (opl_call (longest_spec (hs.ext hx5) hm hmm) rfl (by kernel_rfl)) rfl rfl rfl ?_
            rintro _ _ ⟨rfl, rfl⟩
            refine XR_a (op_move rfl) rfl rfl ?_
            refine XR_a (op_eql rfl rfl) rfl rfl ?_
            refine XR_as (.bool true) (congrArg Value.bool (decide_eq_true rfl)) ?_
            refine XR_a (op_pick_t rfl rfl) rfl rfl ?_
            refine XR_a (op_move rfl) rfl rfl ?_
            refine XR_wa (opl_call (lives07 _) rfl (by kernel_rfl)) rfl rfl rfl ?_
            rintro _ hp6 ⟨rfl, hx6⟩
            refine XR_a (op_pick_t rfl rfl) rfl rfl ?_
            refine XR_a (op_assign rfl) rfl rfl ?_
            refine XR_nil ?_
            refine X_ret (.cons (.tmp rfl) .nil) ?_
            exact ⟨rfl, Ext.trans hx5 hx6⟩
        · have h47 := h
          refine XR_no rfl rfl ?_
          refine XR_no rfl rfl ?_
          refine XR_a (op_pick_f rfl rfl) rfl rfl ?_
          refine XR_a (op_neqB rfl rfl rfl) rfl rfl ?_
          refine XR_as (.bool false) (congrArg Value.bool (decide_eq_false fun hh => hh (decide_eq_false fun k => h47 (by have := k.1; omega)))) ?_
          refine XR_a (op_pick_f rfl rfl) rfl rfl ?_
          refine XR_nil ?_
          refine X_else rfl ?_
          refine X_skip ?_
          refine X_seq ?_
          refine X_reg ?_
          refine XR_a (op_assign rfl) rfl rfl ?_
          refine XR_a (op_assign rfl) rfl rfl ?_
          refine XR_nil ?_
          refine X_seq ?_
          refine X_seq ?_
          refine X_reg ?_
          refine XR_a (op_assign rfl) rfl rfl ?_
          refine XR_nil ?_
          refine X_block ?_
          refine X_loop (fun i => m - i) (fun i => [(0, .slice A n c), (1, .slice B m d), (5, nV (costI la lb)), (6, .bool (decide (okC la lb))), (8, nV (if okC la lb then costTo (la.map Int.toNat) (lb.map Int.toNat) i else 0)), (9, .int .i64 (mxI (lb.take i))), (10, nV i)])
            (fun (i : Nat) hp' => Ext h0 hp' ∧ i ≤ m)
            0 (.cons rfl (.cons rfl (.cons rfl (.cons rfl (.cons (by split <;> rfl) (.cons (by rw [List.take_zero]; rfl) (.cons rfl (.nil _)))))))) ⟨hx1, Nat.zero_le _⟩ ?_
          rintro i hp5 ⟨hx5, hi⟩
          refine X_seq ?_
          refine X_seq ?_
          refine X_reg ?_
          refine XR_a (op_move rfl) rfl rfl ?_
          refine XR_a (op_move rfl) rfl rfl ?_
          refine XR_a (op_len rfl rfl rfl) rfl rfl ?_
          refine XR_a (op_lss rfl rfl) rfl rfl ?_
          refine XR_nil ?_
          refine X_if rfl (fun h => ?_) (fun h => ?_)
          · have him : i < lb.length := by omega
            obtain ⟨gB, oB, rfl, hcB⟩ := hs.at_ (by rw [List.length_map]; omega)
            have hBi := cellH_ext (a := ⟨gB, oB + i, none⟩) hx5 (hcB i (iV lb[i]) (by simp [him]))
            refine X_skip ?_
            refine X_seq ?_
            refine X_block ?_
            refine X_seq ?_
            refine X_seq ?_
            refine X_reg ?_
            refine XR_a (op_move rfl) rfl rfl ?_
            refine XR_a (op_eql rfl rfl) rfl rfl ?_
            refine XR_a (op_move rfl) rfl rfl ?_
            refine XR_if 61 rfl (fun h => ?_) (fun h => ?_)
            · have hmx2 : mxI (lb.take (i + 1)) = lb[i] := by
                have hi0 : i = 0 := by omega
                subst hi0
                exact mxI_one him
              refine XR_no rfl rfl ?_
              refine XR_no rfl rfl ?_
              refine XR_no rfl rfl ?_
              refine XR_no rfl rfl ?_
              refine XR_no rfl rfl ?_
              refine XR_no rfl rfl ?_
              refine XR_a (op_pick_t rfl rfl) rfl rfl ?_
              refine XR_nil ?_
              refine X_then rfl ?_
              refine X_reg ?_
              refine XR_a (op_move rfl) rfl rfl ?_
              refine XR_a (op_move rfl) rfl rfl ?_
              first | refine XR_a (op_index1 rfl rfl rfl (by omega)) rfl rfl ?_ | refine XR_a (op_index rfl rfl rfl (by omega)) rfl rfl ?_
              refine XR_a (op_ld (hBi) rfl rfl rfl) rfl rfl ?_
              refine XR_a (op_assign rfl) rfl rfl ?_
              refine XR_nil ?_
              refine X_seq ?_
              refine X_reg ?_
              refine XR_a (op_move rfl) rfl rfl ?_
              refine XR_nil ?_
              refine X_if rfl (fun h => ?_) (fun h => ?_)
              · obtain ⟨k1, k2, k3⟩ := h
                obtain ⟨gA, oA, rfl, hcA⟩ := hr.at_ (by rw [List.length_map]; omega)
                have hia : i < la.length := by omega
                have hAi := cellH_ext (a := ⟨gA, oA + i, none⟩) hx5 (hcA i (iV la[i]) (by simp [hia]))
                have ha0 := k2.2 _ (List.getElem_mem hia)
                have hb0 := k3.2 _ (List.getElem_mem him)
                have hok : okC la lb := ⟨k1, k2, k3⟩
                have hbd := costTo_bd (ls := lb.map Int.toNat) (wkey_bd k2) (getD_15 k3) i
                have hst : costTo (la.map Int.toNat) (lb.map Int.toNat) (i + 1) = costTo (la.map Int.toNat) (lb.map Int.toNat) i + la[i].toNat * lb[i].toNat := by
                  unfold costTo
                  rw [sum_range_succ]
                  congr 2
                  · simp [List.getD, hia]
                  · simp [List.getD, him]
                have hp1 : la[i] * lb[i] = ((la[i].toNat * lb[i].toNat : Nat) : Int) := by
                  rw [Int.natCast_mul, Int.toNat_of_nonneg (by omega), Int.toNat_of_nonneg (by omega)]
                have hp2 : la[i].toNat * lb[i].toNat ≤ 1073741824 * 15 := Nat.mul_le_mul (by omega) (by omega)
                have hn320 := k2.1
                simp only [if_pos hok]
                refine X_draw byKind (by kernel_rfl) (by kernel_rfl) ?_
                refine XR_a (op_move rfl) rfl rfl ?_
                refine XR_a (op_move rfl) rfl rfl ?_
                refine XR_a (op_move rfl) rfl rfl ?_
                first | refine XR_a (op_index1 rfl rfl rfl (by omega)) rfl rfl ?_ | refine XR_a (op_index rfl rfl rfl (by omega)) rfl rfl ?_
                refine XR_a (op_ld (hAi) rfl rfl rfl) rfl rfl ?_
                refine XR_a (op_move rfl) rfl rfl ?_
                refine XR_a (op_move rfl) rfl rfl ?_
                first | refine XR_a (op_index1 rfl rfl rfl (by omega)) rfl rfl ?_ | refine XR_a (op_index rfl rfl rfl (by omega)) rfl rfl ?_
                refine XR_a (op_ld (hBi) rfl rfl rfl) rfl rfl ?_
                refine XR_a (op_mulI rfl rfl (by rw [hp1]; simp only [inK]; omega)) rfl rfl ?_
                rw [hp1]
                refine XR_a (op_addN (m := costTo (la.map Int.toNat) (lb.map Int.toNat) i) (n := la[i].toNat * lb[i].toNat) rfl rfl (by simp only [inK]; omega)) rfl rfl ?_
                refine XR_a (op_assign rfl) rfl rfl ?_
                refine XR_nil ?_
                refine X_blk ?_
                refine X_reg ?_
                refine XR_a (op_move rfl) rfl rfl ?_
                first | refine XR_a (op_addN (n := 1) rfl rfl (by simp only [inK]; omega)) rfl rfl ?_ | refine XR_a (op_addI rfl rfl (by simp only [inK]; omega)) rfl rfl ?_ | refine XR_a (op_add rfl rfl) rfl rfl ?_
                refine XR_a (op_assign rfl) rfl rfl ?_
                refine XR_nil ?_
                exact X_again (i + 1) (.cons rfl (.cons rfl (.cons rfl (.cons rfl (.cons (by rw [hst]; rfl) (.cons (by rw [hmx2]; rfl) (.cons rfl (.nil _)))))))) ⟨hx5, by omega⟩ (by omega)
              · refine X_skip ?_
                refine X_blk ?_
                refine X_reg ?_
                refine XR_a (op_move rfl) rfl rfl ?_
                first | refine XR_a (op_addN (n := 1) rfl rfl (by simp only [inK]; omega)) rfl rfl ?_ | refine XR_a (op_addI rfl rfl (by simp only [inK]; omega)) rfl rfl ?_ | refine XR_a (op_add rfl rfl) rfl rfl ?_
                refine XR_a (op_assign rfl) rfl rfl ?_
                refine XR_nil ?_
                exact X_again (i + 1) (.cons rfl (.cons rfl (.cons rfl (.cons rfl (.cons (by rw [if_neg h, if_neg h]; rfl) (.cons (by rw [hmx2]; rfl) (.cons rfl (.nil _)))))))) ⟨hx5, by omega⟩ (by omega)
            · have h61 := h
              have hmx := mxI_succ him (by omega)
              refine XR_a (op_move rfl) rfl rfl ?_
              refine XR_a (op_move rfl) rfl rfl ?_
              first | refine XR_a (op_index1 rfl rfl rfl (by omega)) rfl rfl ?_ | refine XR_a (op_index rfl rfl rfl (by omega)) rfl rfl ?_
              refine XR_a (op_ld (hBi) rfl rfl rfl) rfl rfl ?_
              refine XR_a (op_move rfl) rfl rfl ?_
              refine XR_a (op_gtr rfl rfl) rfl rfl ?_
              refine XR_a (op_pick_f rfl rfl) rfl rfl ?_
              refine XR_nil ?_
              refine X_if rfl (fun h => ?_) (fun h => ?_)
              · have h4 := h
                have hmx2 : mxI (lb.take (i + 1)) = lb[i] := by rw [hmx]; omega
                refine X_reg ?_
                refine XR_a (op_move rfl) rfl rfl ?_
                refine XR_a (op_move rfl) rfl rfl ?_
                first | refine XR_a (op_index1 rfl rfl rfl (by omega)) rfl rfl ?_ | refine XR_a (op_index rfl rfl rfl (by omega)) rfl rfl ?_
                refine XR_a (op_ld (hBi) rfl rfl rfl) rfl rfl ?_
                refine XR_a (op_assign rfl) rfl rfl ?_
                refine XR_nil ?_
                refine X_seq ?_
                refine X_reg ?_
                refine XR_a (op_move rfl) rfl rfl ?_
                refine XR_nil ?_
                refine X_if rfl (fun h => ?_) (fun h => ?_)
                · obtain ⟨k1, k2, k3⟩ := h
                  obtain ⟨gA, oA, rfl, hcA⟩ := hr.at_ (by rw [List.length_map]; omega)
                  have hia : i < la.length := by omega
                  have hAi := cellH_ext (a := ⟨gA, oA + i, none⟩) hx5 (hcA i (iV la[i]) (by simp [hia]))
                  have ha0 := k2.2 _ (List.getElem_mem hia)
                  have hb0 := k3.2 _ (List.getElem_mem him)
                  have hok : okC la lb := ⟨k1, k2, k3⟩
                  have hbd := costTo_bd (ls := lb.map Int.toNat) (wkey_bd k2) (getD_15 k3) i
                  have hst : costTo (la.map Int.toNat) (lb.map Int.toNat) (i + 1) = costTo (la.map Int.toNat) (lb.map Int.toNat) i + la[i].toNat * lb[i].toNat := by
                    unfold costTo
                    rw [sum_range_succ]
                    congr 2
                    · simp [List.getD, hia]
                    · simp [List.getD, him]
                  have hp1 : la[i] * lb[i] = ((la[i].toNat * lb[i].toNat : Nat) : Int) := by
                    rw [Int.natCast_mul, Int.toNat_of_nonneg (by omega), Int.toNat_of_nonneg (by omega)]
                  have hp2 : la[i].toNat * lb[i].toNat ≤ 1073741824 * 15 := Nat.mul_le_mul (by omega) (by omega)
                  have hn320 := k2.1
                  simp only [if_pos hok]
                  refine X_draw byKind (by kernel_rfl) (by kernel_rfl) ?_
                  refine XR_a (op_move rfl) rfl rfl ?_
                  refine XR_a (op_move rfl) rfl rfl ?_
                  refine XR_a (op_move rfl) rfl rfl ?_
                  first | refine XR_a (op_index1 rfl rfl rfl (by omega)) rfl rfl ?_ | refine XR_a (op_index rfl rfl rfl (by omega)) rfl rfl ?_
                  refine XR_a (op_ld (hAi) rfl rfl rfl) rfl rfl ?_
                  refine XR_a (op_move rfl) rfl rfl ?_
                  refine XR_a (op_move rfl) rfl rfl ?_
                  first | refine XR_a (op_index1 rfl rfl rfl (by omega)) rfl rfl ?_ | refine XR_a (op_index rfl rfl rfl (by omega)) rfl rfl ?_
                  refine XR_a (op_ld (hBi) rfl rfl rfl) rfl rfl ?_
                  refine XR_a (op_mulI rfl rfl (by rw [hp1]; simp only [inK]; omega)) rfl rfl ?_
                  rw [hp1]
                  refine XR_a (op_addN (m := costTo (la.map Int.toNat) (lb.map Int.toNat) i) (n := la[i].toNat * lb[i].toNat) rfl rfl (by simp only [inK]; omega)) rfl rfl ?_
                  refine XR_a (op_assign rfl) rfl rfl ?_
                  refine XR_nil ?_
                  refine X_blk ?_
                  refine X_reg ?_
                  refine XR_a (op_move rfl) rfl rfl ?_
                  first | refine XR_a (op_addN (n := 1) rfl rfl (by simp only [inK]; omega)) rfl rfl ?_ | refine XR_a (op_addI rfl rfl (by simp only [inK]; omega)) rfl rfl ?_ | refine XR_a (op_add rfl rfl) rfl rfl ?_
                  refine XR_a (op_assign rfl) rfl rfl ?_
                  refine XR_nil ?_
                  exact X_again (i + 1) (.cons rfl (.cons rfl (.cons rfl (.cons rfl (.cons (by rw [hst]; rfl) (.cons (by rw [hmx2]; rfl) (.cons rfl (.nil _)))))))) ⟨hx5, by omega⟩ (by omega)
                · refine X_skip ?_
                  refine X_blk ?_
                  refine X_reg ?_
                  refine XR_a (op_move rfl) rfl rfl ?_
                  first | refine XR_a (op_addN (n := 1) rfl rfl (by simp only [inK]; omega)) rfl rfl ?_ | refine XR_a (op_addI rfl rfl (by simp only [inK]; omega)) rfl rfl ?_ | refine XR_a (op_add rfl rfl) rfl rfl ?_
                  refine XR_a (op_assign rfl) rfl rfl ?_
                  refine XR_nil ?_
                  exact X_again (i + 1) (.cons rfl (.cons rfl (.cons rfl (.cons rfl (.cons (by rw [if_neg h, if_neg h]; rfl) (.cons (by rw [hmx2]; rfl) (.cons rfl (.nil _)))))))) ⟨hx5, by omega⟩ (by omega)
              · have h4 := h
                have hmx2 : mxI (lb.take (i + 1)) = mxI (lb.take i) := by rw [hmx]; omega
                refine X_skip ?_
                refine X_seq ?_
                refine X_reg ?_
                refine XR_a (op_move rfl) rfl rfl ?_
                refine XR_nil ?_
                refine X_if rfl (fun h => ?_) (fun h => ?_)
                · obtain ⟨k1, k2, k3⟩ := h
                  obtain ⟨gA, oA, rfl, hcA⟩ := hr.at_ (by rw [List.length_map]; omega)
                  have hia : i < la.length := by omega
                  have hAi := cellH_ext (a := ⟨gA, oA + i, none⟩) hx5 (hcA i (iV la[i]) (by simp [hia]))
                  have ha0 := k2.2 _ (List.getElem_mem hia)
                  have hb0 := k3.2 _ (List.getElem_mem him)
                  have hok : okC la lb := ⟨k1, k2, k3⟩
                  have hbd := costTo_bd (ls := lb.map Int.toNat) (wkey_bd k2) (getD_15 k3) i
                  have hst : costTo (la.map Int.toNat) (lb.map Int.toNat) (i + 1) = costTo (la.map Int.toNat) (lb.map Int.toNat) i + la[i].toNat * lb[i].toNat := by
                    unfold costTo
                    rw [sum_range_succ]
                    congr 2
                    · simp [List.getD, hia]
                    · simp [List.getD, him]
                  have hp1 : la[i] * lb[i] = ((la[i].toNat * lb[i].toNat : Nat) : Int) := by
                    rw [Int.natCast_mul, Int.toNat_of_nonneg (by omega), Int.toNat_of_nonneg (by omega)]
                  have hp2 : la[i].toNat * lb[i].toNat ≤ 1073741824 * 15 := Nat.mul_le_mul (by omega) (by omega)
                  have hn320 := k2.1
                  simp only [if_pos hok]
                  refine X_draw byKind (by kernel_rfl) (by kernel_rfl) ?_
                  refine XR_a (op_move rfl) rfl rfl ?_
                  refine XR_a (op_move rfl) rfl rfl ?_
                  refine XR_a (op_move rfl) rfl rfl ?_
                  first | refine XR_a (op_index1 rfl rfl rfl (by omega)) rfl rfl ?_ | refine XR_a (op_index rfl rfl rfl (by omega)) rfl rfl ?_
                  refine XR_a (op_ld (hAi) rfl rfl rfl) rfl rfl ?_
                  refine XR_a (op_move rfl) rfl rfl ?_
                  refine XR_a (op_move rfl) rfl rfl ?_
                  first | refine XR_a (op_index1 rfl rfl rfl (by omega)) rfl rfl ?_ | refine XR_a (op_index rfl rfl rfl (by omega)) rfl rfl ?_
                  refine XR_a (op_ld (hBi) rfl rfl rfl) rfl rfl ?_
                  refine XR_a (op_mulI rfl rfl (by rw [hp1]; simp only [inK]; omega)) rfl rfl ?_
                  rw [hp1]
                  refine XR_a (op_addN (m := costTo (la.map Int.toNat) (lb.map Int.toNat) i) (n := la[i].toNat * lb[i].toNat) rfl rfl (by simp only [inK]; omega)) rfl rfl ?_
                  refine XR_a (op_assign rfl) rfl rfl ?_
                  refine XR_nil ?_
                  refine X_blk ?_
                  refine X_reg ?_
                  refine XR_a (op_move rfl) rfl rfl ?_
                  first | refine XR_a (op_addN (n := 1) rfl rfl (by simp only [inK]; omega)) rfl rfl ?_ | refine XR_a (op_addI rfl rfl (by simp only [inK]; omega)) rfl rfl ?_ | refine XR_a (op_add rfl rfl) rfl rfl ?_
                  refine XR_a (op_assign rfl) rfl rfl ?_
                  refine XR_nil ?_
                  exact X_again (i + 1) (.cons rfl (.cons rfl (.cons rfl (.cons rfl (.cons (by rw [hst]; rfl) (.cons (by rw [hmx2]; rfl) (.cons rfl (.nil _)))))))) ⟨hx5, by omega⟩ (by omega)
                · refine X_skip ?_
                  refine X_blk ?_
                  refine X_reg ?_
                  refine XR_a (op_move rfl) rfl rfl ?_
                  first | refine XR_a (op_addN (n := 1) rfl rfl (by simp only [inK]; omega)) rfl rfl ?_ | refine XR_a (op_addI rfl rfl (by simp only [inK]; omega)) rfl rfl ?_ | refine XR_a (op_add rfl rfl) rfl rfl ?_
                  refine XR_a (op_assign rfl) rfl rfl ?_
                  refine XR_nil ?_
                  exact X_again (i + 1) (.cons rfl (.cons rfl (.cons rfl (.cons rfl (.cons (by rw [if_neg h, if_neg h]; rfl) (.cons (by rw [hmx2]; rfl) (.cons rfl (.nil _)))))))) ⟨hx5, by omega⟩ (by omega)
          · have hie : i = m := by omega
            have hfin : costI la lb = (if okC la lb then costTo (la.map Int.toNat) (lb.map Int.toNat) i else 0) := by
              unfold costI costN costTo
              by_cases hok : okC la lb
              · rw [if_pos hok, if_pos hok, List.length_map, hok.1, hm, hie]
              · rw [if_neg hok, if_neg hok]
            rw [List.take_of_length_le (by omega)]
            refine X_exit rfl ?_
            refine X_seq ?_
            refine X_reg ?_
            refine XR_a (op_move rfl) rfl rfl ?_
            refine XR_a (op_move rfl) rfl rfl ?_
            refine XR_a (op_eql rfl rfl) rfl rfl ?_
            refine XR_as (.bool true) (congrArg Value.bool (decide_eq_true (by rw [hfin]))) ?_
            refine XR_a (op_move rfl) rfl rfl ?_
            refine XR_a (op_move rfl) rfl rfl ?_
            refine XR_wa (opl_call (longest_spec (hs.ext hx5) hm hmm) rfl (by kernel_rfl)) rfl rfl rfl ?_
            rintro _ _ ⟨rfl, rfl⟩
            refine XR_a (op_move rfl) rfl rfl ?_
            refine XR_a (op_eql rfl rfl) rfl rfl ?_
            refine XR_as (.bool true) (congrArg Value.bool (decide_eq_true rfl)) ?_
            refine XR_a (op_pick_t rfl rfl) rfl rfl ?_
            refine XR_a (op_move rfl) rfl rfl ?_
            refine XR_wa (opl_call (lives07 _) rfl (by kernel_rfl)) rfl rfl rfl ?_
            rintro _ hp6 ⟨rfl, hx6⟩
            refine XR_a (op_pick_t rfl rfl) rfl rfl ?_
            refine XR_a (op_assign rfl) rfl rfl ?_
            refine XR_nil ?_
            refine X_ret (.cons (.tmp rfl) .nil) ?_
            exact ⟨rfl, Ext.trans hx5 hx6⟩
  · refine XR_nil ?_
    refine X_seq ?_
    refine X_seq ?_
    refine X_reg ?_
    refine XR_a (op_move rfl) rfl rfl ?_
    refine XR_a (op_len rfl rfl rfl) rfl rfl ?_
    refine XR_a (op_gtr rfl rfl) rfl rfl ?_
    refine XR_a (op_move rfl) rfl rfl ?_
    refine XR_if 14 rfl (fun h => ?_) (fun h => ?_)
    · refine XR_no rfl rfl ?_
      refine XR_no rfl rfl ?_
      refine XR_no rfl rfl ?_
      refine XR_a (op_pick_t rfl rfl) rfl rfl ?_
      refine XR_nil ?_
      refine X_then rfl ?_
      refine X_seq ?_
      refine X_reg ?_
      refine XR_wa (opl_call (lives07 h0) rfl (by kernel_rfl)) rfl rfl rfl ?_
      rintro _ hp ⟨rfl, hx⟩
      refine XR_a (op_assign rfl) rfl rfl ?_
      refine XR_nil ?_
      refine X_ret (.cons (.tmp rfl) .nil) ?_
      exact ⟨rfl, hx⟩
    · refine XR_a (op_move rfl) rfl rfl ?_
      refine XR_a (op_len rfl rfl rfl) rfl rfl ?_
      refine XR_a (op_gtr rfl rfl) rfl rfl ?_
      refine XR_a (op_pick_f rfl rfl) rfl rfl ?_
      refine XR_nil ?_
      refine X_if rfl (fun h => ?_) (fun h => ?_)
      · refine X_seq ?_
        refine X_reg ?_
        refine XR_wa (opl_call (lives07 h0) rfl (by kernel_rfl)) rfl rfl rfl ?_
        rintro _ hp ⟨rfl, hx⟩
        refine XR_a (op_assign rfl) rfl rfl ?_
        refine XR_nil ?_
        refine X_ret (.cons (.tmp rfl) .nil) ?_
        exact ⟨rfl, hx⟩
      · refine X_skip ?_
        refine X_seq ?_
        refine X_reg ?_
        refine XR_a (op_move rfl) rfl rfl ?_
        refine XR_a (op_move rfl) rfl rfl ?_
        refine XR_wa (opl_call (cost_spec hr hl hs hm hn hmm) rfl (by kernel_rfl)) rfl rfl rfl ?_
        rintro _ hp1 ⟨rfl, hx1⟩
        refine XR_a (op_move rfl) rfl rfl ?_
        refine XR_a (op_extract rfl rfl) rfl rfl ?_
        refine XR_a (op_extract rfl rfl) rfl rfl ?_
        refine XR_a (op_assign rfl) rfl rfl ?_
        refine XR_a (op_assign rfl) rfl rfl ?_
        refine XR_nil ?_
        refine X_seq ?_
        refine X_reg ?_
        refine XR_a (op_move rfl) rfl rfl ?_
        refine XR_wa (opl_call (right_ref 15 (hs.ext hx1) hm hmm) rfl (by kernel_rfl)) rfl rfl rfl ?_
        rintro _ hp2 ⟨rfl, rfl⟩
        rw [decide_eq_false hR]
        refine XR_a (op_assign rfl) rfl rfl ?_
        refine XR_nil ?_
        refine X_seq ?_
        refine X_seq ?_
        refine X_reg ?_
        refine XR_a (op_move rfl) rfl rfl ?_
        refine XR_wa (opl_call (wfull_any (hs.ext hx1) hm hmm) rfl (by kernel_rfl)) rfl rfl rfl ?_
        rintro _ hp3 ⟨rfl, hx3⟩
        replace hx1 := Ext.trans hx1 hx3
        refine XR_a (op_move rfl) rfl rfl ?_
        refine XR_a (op_move rfl) rfl rfl ?_
        refine XR_no rfl rfl ?_
        refine XR_no rfl rfl ?_
        refine XR_no rfl rfl ?_
        refine XR_a (op_pick_f rfl rfl) rfl rfl ?_
        refine XR_a (op_neqB rfl rfl rfl) rfl rfl ?_
        refine XR_as (.bool false) (congrArg Value.bool (decide_eq_false fun hh => hh (decide_eq_false fun k => hR k.1))) ?_
        refine XR_a (op_move rfl) rfl rfl ?_
        refine XR_a (op_move rfl) rfl rfl ?_
        refine XR_a (op_move rfl) rfl rfl ?_
        refine XR_a (op_move rfl) rfl rfl ?_
        refine XR_no rfl rfl ?_
        refine XR_no rfl rfl ?_
        refine XR_no rfl rfl ?_
        refine XR_no rfl rfl ?_
        refine XR_no rfl rfl ?_
        refine XR_a (op_pick_f rfl rfl) rfl rfl ?_
        refine XR_a (op_move rfl) rfl rfl ?_
        refine XR_no rfl rfl ?_
        refine XR_no rfl rfl ?_
        refine XR_a (op_pick_f rfl rfl) rfl rfl ?_
        refine XR_a (op_neqB rfl rfl rfl) rfl rfl ?_
        refine XR_as (.bool false) (congrArg Value.bool (decide_eq_false fun hh => hh (decide_eq_false fun k => hR k.2.2))) ?_
        refine XR_a (op_pick_f rfl rfl) rfl rfl ?_
        refine XR_nil ?_
        refine X_else rfl ?_
        refine X_skip ?_
        refine X_seq ?_
        refine X_reg ?_
        refine XR_a (op_assign rfl) rfl rfl ?_
        refine XR_a (op_assign rfl) rfl rfl ?_
        refine XR_nil ?_
        refine X_seq ?_
        refine X_seq ?_
        refine X_reg ?_
        refine XR_a (op_assign rfl) rfl rfl ?_
        refine XR_nil ?_
        refine X_block ?_
        refine X_loop (fun i => m - i) (fun i => [(0, .slice A n c), (1, .slice B m d), (5, nV (costI la lb)), (6, .bool (decide (okC la lb))), (8, nV (if okC la lb then costTo (la.map Int.toNat) (lb.map Int.toNat) i else 0)), (9, .int .i64 (mxI (lb.take i))), (10, nV i)])
          (fun (i : Nat) hp' => Ext h0 hp' ∧ i ≤ m)
          0 (.cons rfl (.cons rfl (.cons rfl (.cons rfl (.cons (by split <;> rfl) (.cons (by rw [List.take_zero]; rfl) (.cons rfl (.nil _)))))))) ⟨hx1, Nat.zero_le _⟩ ?_
        rintro i hp5 ⟨hx5, hi⟩
        refine X_seq ?_
        refine X_seq ?_
        refine X_reg ?_
        refine XR_a (op_move rfl) rfl rfl ?_
        refine XR_a (op_move rfl) rfl rfl ?_
        refine XR_a (op_len rfl rfl rfl) rfl rfl ?_
        refine XR_a (op_lss rfl rfl) rfl rfl ?_
        refine XR_nil ?_
        refine X_if rfl (fun h => ?_) (fun h => ?_)
        · have him : i < lb.length := by omega
          obtain ⟨gB, oB, rfl, hcB⟩ := hs.at_ (by rw [List.length_map]; omega)
          have hBi := cellH_ext (a := ⟨gB, oB + i, none⟩) hx5 (hcB i (iV lb[i]) (by simp [him]))
          refine X_skip ?_
          refine X_seq ?_
          refine X_block ?_
          refine X_seq ?_
          refine X_seq ?_
          refine X_reg ?_
          refine XR_a (op_move rfl) rfl rfl ?_
          refine XR_a (op_eql rfl rfl) rfl rfl ?_
          refine XR_a (op_move rfl) rfl rfl ?_
          refine XR_if 61 rfl (fun h => ?_) (fun h => ?_)
          · have hmx2 : mxI (lb.take (i + 1)) = lb[i] := by
              have hi0 : i = 0 := by omega
              subst hi0
              exact mxI_one him
            refine XR_no rfl rfl ?_
            refine XR_no rfl rfl ?_
            refine XR_no rfl rfl ?_
            refine XR_no rfl rfl ?_
            refine XR_no rfl rfl ?_
            refine XR_no rfl rfl ?_
            refine XR_a (op_pick_t rfl rfl) rfl rfl ?_
            refine XR_nil ?_
            refine X_then rfl ?_
            refine X_reg ?_
            refine XR_a (op_move rfl) rfl rfl ?_
            refine XR_a (op_move rfl) rfl rfl ?_
            first | refine XR_a (op_index1 rfl rfl rfl (by omega)) rfl rfl ?_ | refine XR_a (op_index rfl rfl rfl (by omega)) rfl rfl ?_
            refine XR_a (op_ld (hBi) rfl rfl rfl) rfl rfl ?_
            refine XR_a (op_assign rfl) rfl rfl ?_
            refine XR_nil ?_
            refine X_seq ?_
            refine X_reg ?_
            refine XR_a (op_move rfl) rfl rfl ?_
            refine XR_nil ?_
            refine X_if rfl (fun h => ?_) (fun h => ?_)
            · obtain ⟨k1, k2, k3⟩ := h
              obtain ⟨gA, oA, rfl, hcA⟩ := hr.at_ (by rw [List.length_map]; omega)
              have hia : i < la.length := by omega
              have hAi := cellH_ext (a := ⟨gA, oA + i, none⟩) hx5 (hcA i (iV la[i]) (by simp [hia]))
              have ha0 := k2.2 _ (List.getElem_mem hia)
              have hb0 := k3.2 _ (List.getElem_mem him)
              have hok : okC la lb := ⟨k1, k2, k3⟩
              have hbd := costTo_bd (ls := lb.map Int.toNat) (wkey_bd k2) (getD_15 k3) i
              have hst : costTo (la.map Int.toNat) (lb.map Int.toNat) (i + 1) = costTo (la.map Int.toNat) (lb.map Int.toNat) i + la[i].toNat * lb[i].toNat := by
                unfold costTo
                rw [sum_range_succ]
                congr 2
                · simp [List.getD, hia]
                · simp [List.getD, him]
              have hp1 : la[i] * lb[i] = ((la[i].toNat * lb[i].toNat : Nat) : Int) := by
                rw [Int.natCast_mul, Int.toNat_of_nonneg (by omega), Int.toNat_of_nonneg (by omega)]
              have hp2 : la[i].toNat * lb[i].toNat ≤ 1073741824 * 15 := Nat.mul_le_mul (by omega) (by omega)
              have hn320 := k2.1
              simp only [if_pos hok]
              refine X_draw byKind (by kernel_rfl) (by kernel_rfl) ?_
              refine XR_a (op_move rfl) rfl rfl ?_
              refine XR_a (op_move rfl) rfl rfl ?_
              refine XR_a (op_move rfl) rfl rfl ?_
              first | refine XR_a (op_index1 rfl rfl rfl (by omega)) rfl rfl ?_ | refine XR_a (op_index rfl rfl rfl (by omega)) rfl rfl ?_
              refine XR_a (op_ld (hAi) rfl rfl rfl) rfl rfl ?_
              refine XR_a (op_move rfl) rfl rfl ?_
              refine XR_a (op_move rfl) rfl rfl ?_
              first | refine XR_a (op_index1 rfl rfl rfl (by omega)) rfl rfl ?_ | refine XR_a (op_index rfl rfl rfl (by omega)) rfl rfl ?_
              refine XR_a (op_ld (hBi) rfl rfl rfl) rfl rfl ?_
              refine XR_a (op_mulI rfl rfl (by rw [hp1]; simp only [inK]; omega)) rfl rfl ?_
              rw [hp1]
              refine XR_a (op_addN (m := costTo (la.map Int.toNat) (lb.map Int.toNat) i) (n := la[i].toNat * lb[i].toNat) rfl rfl (by simp only [inK]; omega)) rfl rfl ?_
              refine XR_a (op_assign rfl) rfl rfl ?_
              refine XR_nil ?_
              refine X_blk ?_
              refine X_reg ?_
              refine XR_a (op_move rfl) rfl rfl ?_
              first | refine XR_a (op_addN (n := 1) rfl rfl (by simp only [inK]; omega)) rfl rfl ?_ | refine XR_a (op_addI rfl rfl (by simp only [inK]; omega)) rfl rfl ?_ | refine XR_a (op_add rfl rfl) rfl rfl ?_
              refine XR_a (op_assign rfl) rfl rfl ?_
              refine XR_nil ?_
              exact X_again (i + 1) (.cons rfl (.cons rfl (.cons rfl (.cons rfl (.cons (by rw [hst]; rfl) (.cons (by rw [hmx2]; rfl) (.cons rfl (.nil _)))))))) ⟨hx5, by omega⟩ (by omega)
            · refine X_skip ?_
              refine X_blk ?_
              refine X_reg ?_
              refine XR_a (op_move rfl) rfl rfl ?_
              first | refine XR_a (op_addN (n := 1) rfl rfl (by simp only [inK]; omega)) rfl rfl ?_ | refine XR_a (op_addI rfl rfl (by simp only [inK]; omega)) rfl rfl ?_ | refine XR_a (op_add rfl rfl) rfl rfl ?_
              refine XR_a (op_assign rfl) rfl rfl ?_
              refine XR_nil ?_
              exact X_again (i + 1) (.cons rfl (.cons rfl (.cons rfl (.cons rfl (.cons (by rw [if_neg h, if_neg h]; rfl) (.cons (by rw [hmx2]; rfl) (.cons rfl (.nil _)))))))) ⟨hx5, by omega⟩ (by omega)
          · have h61 := h
            have hmx := mxI_succ him (by omega)
            refine XR_a (op_move rfl) rfl rfl ?_
            refine XR_a (op_move rfl) rfl rfl ?_
            first | refine XR_a (op_index1 rfl rfl rfl (by omega)) rfl rfl ?_ | refine XR_a (op_index rfl rfl rfl (by omega)) rfl rfl ?_
            refine XR_a (op_ld (hBi) rfl rfl rfl) rfl rfl ?_
            refine XR_a (op_move rfl) rfl rfl ?_
            refine XR_a (op_gtr rfl rfl) rfl rfl ?_
            refine XR_a (op_pick_f rfl rfl) rfl rfl ?_
            refine XR_nil ?_
            refine X_if rfl (fun h => ?_) (fun h => ?_)
            · have h4 := h
              have hmx2 : mxI (lb.take (i + 1)) = lb[i] := by rw [hmx]; omega
              refine X_reg ?_
              refine XR_a (op_move rfl) rfl rfl ?_
              refine XR_a (op_move rfl) rfl rfl ?_
              first | refine XR_a (op_index1 rfl rfl rfl (by omega)) rfl rfl ?_ | refine XR_a (op_index rfl rfl rfl (by omega)) rfl rfl ?_
              refine XR_a (op_ld (hBi) rfl rfl rfl) rfl rfl ?_
              refine XR_a (op_assign rfl) rfl rfl ?_
              refine XR_nil ?_
              refine X_seq ?_
              refine X_reg ?_
              refine XR_a (op_move rfl) rfl rfl ?_
              refine XR_nil ?_
              refine X_if rfl (fun h => ?_) (fun h => ?_)
              · obtain ⟨k1, k2, k3⟩ := h
                obtain ⟨gA, oA, rfl, hcA⟩ := hr.at_ (by rw [List.length_map]; omega)
                have hia : i < la.length := by omega
                have hAi := cellH_ext (a := ⟨gA, oA + i, none⟩) hx5 (hcA i (iV la[i]) (by simp [hia]))
                have ha0 := k2.2 _ (List.getElem_mem hia)
                have hb0 := k3.2 _ (List.getElem_mem him)
                have hok : okC la lb := ⟨k1, k2, k3⟩
                have hbd := costTo_bd (ls := lb.map Int.toNat) (wkey_bd k2) (getD_15 k3) i
                have hst : costTo (la.map Int.toNat) (lb.map Int.toNat) (i + 1) = costTo (la.map Int.toNat) (lb.map Int.toNat) i + la[i].toNat * lb[i].toNat := by
                  unfold costTo
                  rw [sum_range_succ]
                  congr 2
                  · simp [List.getD, hia]
                  · simp [List.getD, him]
                have hp1 : la[i] * lb[i] = ((la[i].toNat * lb[i].toNat : Nat) : Int) := by
                  rw [Int.natCast_mul, Int.toNat_of_nonneg (by omega), Int.toNat_of_nonneg (by omega)]
                have hp2 : la[i].toNat * lb[i].toNat ≤ 1073741824 * 15 := Nat.mul_le_mul (by omega) (by omega)
                have hn320 := k2.1
                simp only [if_pos hok]
                refine X_draw byKind (by kernel_rfl) (by kernel_rfl) ?_
                refine XR_a (op_move rfl) rfl rfl ?_
                refine XR_a (op_move rfl) rfl rfl ?_
                refine XR_a (op_move rfl) rfl rfl ?_
                first | refine XR_a (op_index1 rfl rfl rfl (by omega)) rfl rfl ?_ | refine XR_a (op_index rfl rfl rfl (by omega)) rfl rfl ?_
                refine XR_a (op_ld (hAi) rfl rfl rfl) rfl rfl ?_
                refine XR_a (op_move rfl) rfl rfl ?_
                refine XR_a (op_move rfl) rfl rfl ?_
                first | refine XR_a (op_index1 rfl rfl rfl (by omega)) rfl rfl ?_ | refine XR_a (op_index rfl rfl rfl (by omega)) rfl rfl ?_
                refine XR_a (op_ld (hBi) rfl rfl rfl) rfl rfl ?_
                refine XR_a (op_mulI rfl rfl (by rw [hp1]; simp only [inK]; omega)) rfl rfl ?_
                rw [hp1]
                refine XR_a (op_addN (m := costTo (la.map Int.toNat) (lb.map Int.toNat) i) (n := la[i].toNat * lb[i].toNat) rfl rfl (by simp only [inK]; omega)) rfl rfl ?_
                refine XR_a (op_assign rfl) rfl rfl ?_
                refine XR_nil ?_
                refine X_blk ?_
                refine X_reg ?_
                refine XR_a (op_move rfl) rfl rfl ?_
                first | refine XR_a (op_addN (n := 1) rfl rfl (by simp only [inK]; omega)) rfl rfl ?_ | refine XR_a (op_addI rfl rfl (by simp only [inK]; omega)) rfl rfl ?_ | refine XR_a (op_add rfl rfl) rfl rfl ?_
                refine XR_a (op_assign rfl) rfl rfl ?_
                refine XR_nil ?_
                exact X_again (i + 1) (.cons rfl (.cons rfl (.cons rfl (.cons rfl (.cons (by rw [hst]; rfl) (.cons (by rw [hmx2]; rfl) (.cons rfl (.nil _)))))))) ⟨hx5, by omega⟩ (by omega)
              · refine X_skip ?_
                refine X_blk ?_
                refine X_reg ?_
                refine XR_a (op_move rfl) rfl rfl ?_
                first | refine XR_a (op_addN (n := 1) rfl rfl (by simp only [inK]; omega)) rfl rfl ?_ | refine XR_a (op_addI rfl rfl (by simp only [inK]; omega)) rfl rfl ?_ | refine XR_a (op_add rfl rfl) rfl rfl ?_
                refine XR_a (op_assign rfl) rfl rfl ?_
                refine XR_nil ?_
                exact X_again (i + 1) (.cons rfl (.cons rfl (.cons rfl (.cons rfl (.cons (by rw [if_neg h, if_neg h]; rfl) (.cons (by rw [hmx2]; rfl) (.cons rfl (.nil _)))))))) ⟨hx5, by omega⟩ (by omega)
            · have h4 := h
              have hmx2 : mxI (lb.take (i + 1)) = mxI (lb.take i) := by rw [hmx]; omega
              refine X_skip ?_
              refine X_seq ?_
              refine X_reg ?_
              refine XR_a (op_move rfl) rfl rfl ?_
              refine XR_nil ?_
              refine X_if rfl (fun h => ?_) (fun h => ?_)
              · obtain ⟨k1, k2, k3⟩ := h
                obtain ⟨gA, oA, rfl, hcA⟩ := hr.at_ (by rw [List.length_map]; omega)
                have hia : i < la.length := by omega
                have hAi := cellH_ext (a := ⟨gA, oA + i, none⟩) hx5 (hcA i (iV la[i]) (by simp [hia]))
                have ha0 := k2.2 _ (List.getElem_mem hia)
                have hb0 := k3.2 _ (List.getElem_mem him)
                have hok : okC la lb := ⟨k1, k2, k3⟩
                have hbd := costTo_bd (ls := lb.map Int.toNat) (wkey_bd k2) (getD_15 k3) i
                have hst : costTo (la.map Int.toNat) (lb.map Int.toNat) (i + 1) = costTo (la.map Int.toNat) (lb.map Int.toNat) i + la[i].toNat * lb[i].toNat := by
                  unfold costTo
                  rw [sum_range_succ]
                  congr 2
                  · simp [List.getD, hia]
                  · simp [List.getD, him]
                have hp1 : la[i] * lb[i] = ((la[i].toNat * lb[i].toNat : Nat) : Int) := by
                  rw [Int.natCast_mul, Int.toNat_of_nonneg (by omega), Int.toNat_of_nonneg (by omega)]
                have hp2 : la[i].toNat * lb[i].toNat ≤ 1073741824 * 15 := Nat.mul_le_mul (by omega) (by omega)
                have hn320 := k2.1
                simp only [if_pos hok]
                refine X_draw byKind (by kernel_rfl) (by kernel_rfl) ?_
                refine XR_a (op_move rfl) rfl rfl ?_
                refine XR_a (op_move rfl) rfl rfl ?_
                refine XR_a (op_move rfl) rfl rfl ?_
                first | refine XR_a (op_index1 rfl rfl rfl (by omega)) rfl rfl ?_ | refine XR_a (op_index rfl rfl rfl (by omega)) rfl rfl ?_
                refine XR_a (op_ld (hAi) rfl rfl rfl) rfl rfl ?_
                refine XR_a (op_move rfl) rfl rfl ?_
                refine XR_a (op_move rfl) rfl rfl ?_
                first | refine XR_a (op_index1 rfl rfl rfl (by omega)) rfl rfl ?_ | refine XR_a (op_index rfl rfl rfl (by omega)) rfl rfl ?_
                refine XR_a (op_ld (hBi) rfl rfl rfl) rfl rfl ?_
                refine XR_a (op_mulI rfl rfl (by rw [hp1]; simp only [inK]; omega)) rfl rfl ?_
                rw [hp1]
                refine XR_a (op_addN (m := costTo (la.map Int.toNat) (lb.map Int.toNat) i) (n := la[i].toNat * lb[i].toNat) rfl rfl (by simp only [inK]; omega)) rfl rfl ?_
                refine XR_a (op_assign rfl) rfl rfl ?_
                refine XR_nil ?_
                refine X_blk ?_
                refine X_reg ?_
                refine XR_a (op_move rfl) rfl rfl ?_
                first | refine XR_a (op_addN (n := 1) rfl rfl (by simp only [inK]; omega)) rfl rfl ?_ | refine XR_a (op_addI rfl rfl (by simp only [inK]; omega)) rfl rfl ?_ | refine XR_a (op_add rfl rfl) rfl rfl ?_
                refine XR_a (op_assign rfl) rfl rfl ?_
                refine XR_nil ?_
                exact X_again (i + 1) (.cons rfl (.cons rfl (.cons rfl (.cons rfl (.cons (by rw [hst]; rfl) (.cons (by rw [hmx2]; rfl) (.cons rfl (.nil _)))))))) ⟨hx5, by omega⟩ (by omega)
              · refine X_skip ?_
                refine X_blk ?_
                refine X_reg ?_
                refine XR_a (op_move rfl) rfl rfl ?_
                first | refine XR_a (op_addN (n := 1) rfl rfl (by simp only [inK]; omega)) rfl rfl ?_ | refine XR_a (op_addI rfl rfl (by simp only [inK]; omega)) rfl rfl ?_ | refine XR_a (op_add rfl rfl) rfl rfl ?_
                refine XR_a (op_assign rfl) rfl rfl ?_
                refine XR_nil ?_
                exact X_again (i + 1) (.cons rfl (.cons rfl (.cons rfl (.cons rfl (.cons (by rw [if_neg h, if_neg h]; rfl) (.cons (by rw [hmx2]; rfl) (.cons rfl (.nil _)))))))) ⟨hx5, by omega⟩ (by omega)
        · have hie : i = m := by omega
          have hfin : costI la lb = (if okC la lb then costTo (la.map Int.toNat) (lb.map Int.toNat) i else 0) := by
            unfold costI costN costTo
            by_cases hok : okC la lb
            · rw [if_pos hok, if_pos hok, List.length_map, hok.1, hm, hie]
            · rw [if_neg hok, if_neg hok]
          rw [List.take_of_length_le (by omega)]
          refine X_exit rfl ?_
          refine X_seq ?_
          refine X_reg ?_
          refine XR_a (op_move rfl) rfl rfl ?_
          refine XR_a (op_move rfl) rfl rfl ?_
          refine XR_a (op_eql rfl rfl) rfl rfl ?_
          refine XR_as (.bool true) (congrArg Value.bool (decide_eq_true (by rw [hfin]))) ?_
          refine XR_a (op_move rfl) rfl rfl ?_
          refine XR_a (op_move rfl) rfl rfl ?_
          refine XR_wa (opl_call (longest_spec (hs.ext hx5) hm hmm) rfl (by kernel_rfl)) rfl rfl rfl ?_
          rintro _ _ ⟨rfl, rfl⟩
          refine XR_a (op_move rfl) rfl rfl ?_
          refine XR_a (op_eql rfl rfl) rfl rfl ?_
          refine XR_as (.bool true) (congrArg Value.bool (decide_eq_true rfl)) ?_
          refine XR_a (op_pick_t rfl rfl) rfl rfl ?_
          refine XR_a (op_move rfl) rfl rfl ?_
          refine XR_wa (opl_call (lives07 _) rfl (by kernel_rfl)) rfl rfl rfl ?_
          rintro _ hp6 ⟨rfl, hx6⟩
          refine XR_a (op_pick_t rfl rfl) rfl rfl ?_
          refine XR_a (op_assign rfl) rfl rfl ?_
          refine XR_nil ?_
          refine X_ret (.cons (.tmp rfl) .nil) ?_
          exact ⟨rfl, Ext.trans hx5 hx6⟩

theorem weighBest_ret {n c m d : Nat} {A B : Option Addr} {la lb : List Int} {h0 : Heap} (hr : Rd h0 A (la.map iV)) (hl : la.length = n) (hs : Rd h0 B (lb.map iV)) (hm : lb.length = m) (hn : n ≤ 17592186044416) (hmm : m ≤ 17592186044416) :
    Ret Try.prog 10 [.slice A n c, .slice B m d] h0 fun v h' => v = .bool true ∧ Ext h0 h' := by
  refine ret_of_X Try.func10 rfl rfl fun w0 hw0 => ?_
  simp only [argE, Nat.zero_add, Nat.reduceAdd]
  refine X_seq ?_
  refine X_reg ?_
  refine XR_a (op_assign rfl) rfl rfl ?_
  by_cases hR : boundedB 1073741824 la
  · refine XR_nil ?_
    refine X_seq ?_
    refine X_reg ?_
    refine XR_a (op_move rfl) rfl rfl ?_
    refine XR_wa (opl_call (lengths_spec hr hl hn) rfl (by kernel_rfl)) rfl rfl rfl ?_
    rintro _ hp1 ⟨w, rfl, st⟩
    have he0 := errW_zero.2 hR
    have hlens : lensI la = lensW (la.map Int.toNat) := by unfold lensI; rw [if_pos he0]
    rw [hlens] at st
    rw [he0]
    have hn320 := hR.1
    have hlw : (la.map Int.toNat).length = n := by rw [List.length_map]; exact hl
    obtain ⟨A3, n3, c3, rfl, hl3, _, _, hrd3⟩ := st.row 0 rfl
    rw [List.length_map, lensW_length, Nat.mul_one] at hl3
    obtain rfl : n = n3 := by omega
    have hx1 : Ext h0 hp1 := st.low
    refine XR_a (op_move rfl) rfl rfl ?_
    refine XR_a (op_extract rfl rfl) rfl rfl ?_
    refine XR_a (op_extract rfl rfl) rfl rfl ?_
    refine XR_a (op_assign rfl) rfl rfl ?_
    refine XR_a (op_assign rfl) rfl rfl ?_
    refine XR_nil ?_
    refine X_seq ?_
    refine X_seq ?_
    refine X_reg ?_
    refine XR_a (op_move rfl) rfl rfl ?_
    refine XR_a (op_neq rfl rfl) rfl rfl ?_
    refine XR_a (op_move rfl) rfl rfl ?_
    refine XR_a (op_move rfl) rfl rfl ?_
    refine XR_a (op_len rfl rfl rfl) rfl rfl ?_
    refine XR_a (op_gtr rfl rfl) rfl rfl ?_
    refine XR_a (op_pick_f rfl rfl) rfl rfl ?_
    refine XR_a (op_move rfl) rfl rfl ?_
    refine XR_if 24 rfl (fun h => ?_) (fun h => ?_)
    · exact absurd h (by omega)
    · refine XR_a (op_move rfl) rfl rfl ?_
      refine XR_a (op_len rfl rfl rfl) rfl rfl ?_
      refine XR_a (op_move rfl) rfl rfl ?_
      refine XR_a (op_len rfl rfl rfl) rfl rfl ?_
      refine XR_a (op_neq rfl rfl) rfl rfl ?_
      refine XR_a (op_pick_f rfl rfl) rfl rfl ?_
      refine XR_a (op_move rfl) rfl rfl ?_
      refine XR_if 31 rfl (fun h => ?_) (fun h => ?_)
      · refine XR_no rfl rfl ?_
        refine XR_no rfl rfl ?_
        refine XR_no rfl rfl ?_
        refine XR_a (op_pick_t rfl rfl) rfl rfl ?_
        refine XR_nil ?_
        refine X_then rfl ?_
        refine X_seq ?_
        refine X_reg ?_
        refine XR_wa (opl_call (lives07 _) rfl (by kernel_rfl)) rfl rfl rfl ?_
        rintro _ hp3 ⟨rfl, hx3⟩
        have hx13 := Ext.trans hx1 hx3
        refine XR_a (op_assign rfl) rfl rfl ?_
        refine XR_nil ?_
        refine X_ret (.cons (.tmp rfl) .nil) ?_
        exact ⟨rfl, hx13⟩
      · have h31 := h
        refine XR_a (op_move rfl) rfl rfl ?_
        refine XR_wa (opl_call (wfull_any (hs.ext hx1) hm hmm) rfl (by kernel_rfl)) rfl rfl rfl ?_
        rintro _ hp2 ⟨rfl, hx2⟩
        have hx12 := Ext.trans hx1 hx2
        first | refine XR_a (op_notd rfl) rfl rfl ?_ | refine XR_a (op_not rfl) rfl rfl ?_
        refine XR_a (op_pick_f rfl rfl) rfl rfl ?_
        refine XR_nil ?_
        refine X_if rfl (fun h => ?_) (fun h => ?_)
        · refine X_seq ?_
          refine X_reg ?_
          refine XR_wa (opl_call (lives07 _) rfl (by kernel_rfl)) rfl rfl rfl ?_
          rintro _ hp3 ⟨rfl, hx3⟩
          have hx13 := Ext.trans hx12 hx3
          refine XR_a (op_assign rfl) rfl rfl ?_
          refine XR_nil ?_
          refine X_ret (.cons (.tmp rfl) .nil) ?_
          exact ⟨rfl, hx13⟩
        · have hfull : fullI lb := Decidable.not_not.1 h
          have hmn : m = n := by omega
          subst hmn
          refine X_skip ?_
          refine X_seq ?_
          refine X_seq ?_
          refine X_reg ?_
          refine XR_a (op_assign rfl) rfl rfl ?_
          refine XR_nil ?_
          refine X_block ?_
          refine X_loop (fun i => m - i) (fun i => [(0, .slice A m c), (1, .slice B m d), (5, .slice A3 m c3), (7, nV i)])
            (fun (i : Nat) hp' => hp' = hp2 ∧ i ≤ m ∧ ∀ s, s < i → (0 < wkey (la.map Int.toNat) s ↔ 0 < (lb.map Int.toNat).getD s 0))
            0 (.cons rfl (.cons rfl (.cons rfl (.cons rfl (.nil _))))) ⟨rfl, Nat.zero_le _, fun s hs => by omega⟩ ?_
          rintro i hp3 ⟨rfl, hi, hsup⟩
          refine X_seq ?_
          refine X_seq ?_
          refine X_reg ?_
          refine XR_a (op_move rfl) rfl rfl ?_
          refine XR_a (op_move rfl) rfl rfl ?_
          refine XR_a (op_len rfl rfl rfl) rfl rfl ?_
          refine XR_a (op_lss rfl rfl) rfl rfl ?_
          refine XR_nil ?_
          refine X_if rfl (fun h => ?_) (fun h => ?_)
          · have hia : i < la.length := by omega
            have hib : i < lb.length := by omega
            obtain ⟨gA, oA, rfl, hcA⟩ := hr.at_ (by rw [List.length_map]; omega)
            obtain ⟨gB, oB, rfl, hcB⟩ := hs.at_ (by rw [List.length_map]; omega)
            have hAi := cellH_ext (a := ⟨gA, oA + i, none⟩) hx12 (hcA i (iV la[i]) (by simp [hia]))
            have hBi := cellH_ext (a := ⟨gB, oB + i, none⟩) hx12 (hcB i (iV lb[i]) (by simp [hib]))
            have ha0 := hR.2 _ (List.getElem_mem hia)
            have hb0 := hfull.1.2 _ (List.getElem_mem hib)
            have ea : wkey (la.map Int.toNat) i = la[i].toNat := by unfold wkey; simp [List.getD, hia]
            have eb : (lb.map Int.toNat).getD i 0 = lb[i].toNat := by simp [List.getD, hib]
            refine X_skip ?_
            refine X_seq ?_
            refine X_block ?_
            refine X_seq ?_
            refine X_draw byKind (by kernel_rfl) (by kernel_rfl) ?_
            refine XR_a (op_move rfl) rfl rfl ?_
            refine XR_a (op_move rfl) rfl rfl ?_
            first | refine XR_a (op_index1 rfl rfl rfl (by omega)) rfl rfl ?_ | refine XR_a (op_index rfl rfl rfl (by omega)) rfl rfl ?_
            refine XR_a (op_ld (hAi) rfl rfl rfl) rfl rfl ?_
            refine XR_a (op_gtr rfl rfl) rfl rfl ?_
            refine XR_a (op_move rfl) rfl rfl ?_
            refine XR_a (op_move rfl) rfl rfl ?_
            first | refine XR_a (op_index1 rfl rfl rfl (by omega)) rfl rfl ?_ | refine XR_a (op_index rfl rfl rfl (by omega)) rfl rfl ?_
            refine XR_a (op_ld (hBi) rfl rfl rfl) rfl rfl ?_
            refine XR_a (op_gtr rfl rfl) rfl rfl ?_
            refine XR_a (op_neqB rfl rfl rfl) rfl rfl ?_
            refine XR_nil ?_
            refine X_if rfl (fun h => ?_) (fun h => ?_)
            · refine X_seq ?_
              refine X_reg ?_
              refine XR_wa (opl_call (lives07 _) rfl (by kernel_rfl)) rfl rfl rfl ?_
              rintro _ hp4 ⟨rfl, hx4⟩
              refine XR_a (op_assign rfl) rfl rfl ?_
              refine XR_nil ?_
              refine X_ret (.cons (.tmp rfl) .nil) ?_
              exact ⟨rfl, Ext.trans hx12 hx4⟩
            · refine X_skip ?_
              refine X_blk ?_
              refine X_reg ?_
              refine XR_a (op_move rfl) rfl rfl ?_
              first | refine XR_a (op_addN (n := 1) rfl rfl (by simp only [inK]; omega)) rfl rfl ?_ | refine XR_a (op_addI rfl rfl (by simp only [inK]; omega)) rfl rfl ?_ | refine XR_a (op_add rfl rfl) rfl rfl ?_
              refine XR_a (op_assign rfl) rfl rfl ?_
              refine XR_nil ?_
              have h3 := decide_eq_decide.1 (Decidable.not_not.1 h)
              refine X_again (i + 1) (.cons rfl (.cons rfl (.cons rfl (.cons rfl (.nil _))))) ⟨rfl, by omega, fun s hs => ?_⟩ (by omega)
              rcases Nat.lt_or_ge s i with h5 | h5
              · exact hsup s h5
              · obtain rfl : s = i := by omega
                rw [ea, eb]; omega
          · refine X_exit rfl ?_
            refine X_seq ?_
            obtain rfl : i = m := by omega
            have hrdI := hrd3.ext hx2
            rw [nV_iV] at hrdI
            have hb15 : boundedB 15 ((lensW (la.map Int.toNat)).map fun n : Nat => (n : Int)) := by
              refine ⟨by rw [List.length_map, lensW_length]; omega, fun x hx => ?_⟩
              obtain ⟨y, hy, rfl⟩ := List.mem_map.1 hx
              have := lensW_le _ y hy; omega
            have hto : ((lensW (la.map Int.toNat)).map fun n : Nat => (n : Int)).map Int.toNat = lensW (la.map Int.toNat) := by
              rw [List.map_map]
              conv => rhs; rw [← List.map_id (lensW (la.map Int.toNat))]
              exact List.map_congr_left fun x _ => by simp
            have hok1 : okC la ((lensW (la.map Int.toNat)).map fun n : Nat => (n : Int)) := ⟨by rw [List.length_map, lensW_length, List.length_map], hR, hb15⟩
            have hok2 : okC la lb := ⟨by omega, hR, hfull.1⟩
            have hbest := lensW_best (ws := la.map Int.toNat) (os := lb.map Int.toNat) (by omega) (by rw [List.length_map, List.length_map]; omega) (fun x hx => by obtain ⟨y, hy, rfl⟩ := List.mem_map.1 hx; have := hfull.1.2 y hy; omega) hfull.2 (fun s hs => hsup s (by omega))
            have hc1 : costI la ((lensW (la.map Int.toNat)).map fun n : Nat => (n : Int)) = costN (la.map Int.toNat) (lensW (la.map Int.toNat)) := by unfold costI; rw [if_pos hok1, hto]
            have hc2 : costI la lb = costN (la.map Int.toNat) (lb.map Int.toNat) := by unfold costI; rw [if_pos hok2]
            refine X_reg ?_
            refine XR_a (op_move rfl) rfl rfl ?_
            refine XR_a (op_move rfl) rfl rfl ?_
            refine XR_wa (opl_call (cost_spec (hr.ext hx12) hl hrdI (by rw [List.length_map, lensW_length, List.length_map]; exact hl) hn hn) rfl (by kernel_rfl)) rfl rfl rfl ?_
            rintro _ hp4 ⟨rfl, hx4⟩
            rw [hc1, decide_eq_true hok1]
            refine XR_a (op_move rfl) rfl rfl ?_
            refine XR_a (op_extract rfl rfl) rfl rfl ?_
            refine XR_a (op_extract rfl rfl) rfl rfl ?_
            refine XR_a (op_assign rfl) rfl rfl ?_
            refine XR_a (op_assign rfl) rfl rfl ?_
            refine XR_nil ?_
            refine X_seq ?_
            refine X_reg ?_
            refine XR_a (op_move rfl) rfl rfl ?_
            refine XR_a (op_move rfl) rfl rfl ?_
            refine XR_wa (opl_call (cost_spec ((hr.ext hx12).ext hx4) hl ((hs.ext hx12).ext hx4) hm hn hn) rfl (by kernel_rfl)) rfl rfl rfl ?_
            rintro _ hp5 ⟨rfl, hx5⟩
            rw [hc2, decide_eq_true hok2]
            refine XR_a (op_move rfl) rfl rfl ?_
            refine XR_a (op_extract rfl rfl) rfl rfl ?_
            refine XR_a (op_extract rfl rfl) rfl rfl ?_
            refine XR_a (op_assign rfl) rfl rfl ?_
            refine XR_a (op_assign rfl) rfl rfl ?_
            refine XR_nil ?_
            refine X_seq ?_
            refine X_reg ?_
            refine XR_a (op_move rfl) rfl rfl ?_
            refine XR_a (op_move rfl) rfl rfl ?_
            refine XR_a (op_move rfl) rfl rfl ?_
            refine XR_a (op_pick_t rfl rfl) rfl rfl ?_
            refine XR_a (op_move rfl) rfl rfl ?_
            refine XR_a (op_move rfl) rfl rfl ?_
            refine XR_a (op_move rfl) rfl rfl ?_
            refine XR_a (op_leq rfl rfl) rfl rfl ?_
            refine XR_as (.bool true) (congrArg Value.bool (decide_eq_true (by omega))) ?_
            refine XR_a (op_pick_t rfl rfl) rfl rfl ?_
            refine XR_a (op_move rfl) rfl rfl ?_
            refine XR_wa (opl_call (lives07 _) rfl (by kernel_rfl)) rfl rfl rfl ?_
            rintro _ hp6 ⟨rfl, hx6⟩
            refine XR_a (op_pick_t rfl rfl) rfl rfl ?_
            refine XR_a (op_assign rfl) rfl rfl ?_
            refine XR_nil ?_
            refine X_ret (.cons (.tmp rfl) .nil) ?_
            exact ⟨rfl, Ext.trans (Ext.trans (Ext.trans hx12 hx4) hx5) hx6⟩
  · refine XR_nil ?_
    refine X_seq ?_
    refine X_reg ?_
    refine XR_a (op_move rfl) rfl rfl ?_
    refine XR_wa (opl_call (lengths_spec hr hl hn) rfl (by kernel_rfl)) rfl rfl rfl ?_
    rintro _ hp1 ⟨w, rfl, st⟩
    have hx1 : Ext h0 hp1 := st.low
    refine XR_a (op_move rfl) rfl rfl ?_
    refine XR_a (op_extract rfl rfl) rfl rfl ?_
    refine XR_a (op_extract rfl rfl) rfl rfl ?_
    refine XR_a (op_assign rfl) rfl rfl ?_
    refine XR_a (op_assign rfl) rfl rfl ?_
    refine XR_nil ?_
    refine X_seq ?_
    refine X_seq ?_
    refine X_reg ?_
    refine XR_a (op_move rfl) rfl rfl ?_
    refine XR_a (op_neq rfl rfl) rfl rfl ?_
    refine XR_as (.bool true) (congrArg Value.bool (decide_eq_true fun hh => hR (errW_zero.1 hh))) ?_
    refine XR_a (op_move rfl) rfl rfl ?_
    refine XR_no rfl rfl ?_
    refine XR_no rfl rfl ?_
    refine XR_no rfl rfl ?_
    refine XR_a (op_pick_t rfl rfl) rfl rfl ?_
    refine XR_a (op_move rfl) rfl rfl ?_
    refine XR_no rfl rfl ?_
    refine XR_no rfl rfl ?_
    refine XR_no rfl rfl ?_
    refine XR_no rfl rfl ?_
    refine XR_no rfl rfl ?_
    refine XR_a (op_pick_t rfl rfl) rfl rfl ?_
    refine XR_a (op_move rfl) rfl rfl ?_
    refine XR_no rfl rfl ?_
    refine XR_no rfl rfl ?_
    refine XR_no rfl rfl ?_
    refine XR_a (op_pick_t rfl rfl) rfl rfl ?_
    refine XR_nil ?_
    refine X_then rfl ?_
    refine X_seq ?_
    refine X_reg ?_
    refine XR_wa (opl_call (lives07 _) rfl (by kernel_rfl)) rfl rfl rfl ?_
    rintro _ hp3 ⟨rfl, hx3⟩
    have hx13 := Ext.trans hx1 hx3
    refine XR_a (op_assign rfl) rfl rfl ?_
    refine XR_nil ?_
    refine X_ret (.cons (.tmp rfl) .nil) ?_
    exact ⟨rfl, hx13⟩
end Go.Bn
