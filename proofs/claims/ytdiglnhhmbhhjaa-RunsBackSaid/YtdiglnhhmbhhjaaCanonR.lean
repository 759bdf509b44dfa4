/- The contracts of bindleref07's and bindleref08's functions. -/
import Derived.Test.YtdiglnhhmbhhjaaCanon3
set_option linter.unusedVariables false
set_option linter.unusedSimpArgs false
set_option maxHeartbeats 4000000
set_option maxRecDepth 20000
namespace Go.Bn
open Go Proofs

theorem right_ref {n c : Nat} {A : Option Addr} {li : List Int} (most : Int) {h0 : Heap} (hr : Rd h0 A (li.map iV)) (hl : li.length = n) (hn : n ≤ 17592186044416) :
    Ret Try.prog 32 [.slice A n c, .int .i64 most] h0 fun v h' => v = .bool (decide (boundedB most li)) ∧ h0 = h' := by
  refine ret_of_X Try.func32 rfl rfl fun w0 hw0 => ?_
  simp only [argE, Nat.zero_add, Nat.reduceAdd]
  refine X_seq ?_
  refine X_reg ?_
  refine XR_a (op_assign rfl) rfl rfl ?_
  refine XR_nil ?_
  refine X_seq ?_
  refine X_seq ?_
  refine X_reg ?_
  refine XR_a (op_assign rfl) rfl rfl ?_
  refine XR_nil ?_
  refine X_block ?_
  refine X_loop (fun i => n - i) (fun i => [(0, .slice A n c), (1, .int .i64 most), (5, .int .i64 (i : Int))])
    (fun (i : Nat) hp => hp = h0 ∧ i ≤ n ∧ ∀ x ∈ li.take i, 0 ≤ x ∧ x ≤ most)
    0 (.cons rfl (.cons rfl (.cons rfl (.nil _)))) ⟨rfl, by omega, by simp⟩ ?_
  rintro i hp ⟨rfl, hi, hall⟩
  refine X_seq ?_
  refine X_seq ?_
  refine X_reg ?_
  refine XR_a (op_move rfl) rfl rfl ?_
  refine XR_a (op_move rfl) rfl rfl ?_
  refine XR_a (op_len rfl rfl rfl) rfl rfl ?_
  refine XR_a (op_lss rfl rfl) rfl rfl ?_
  refine XR_nil ?_
  refine X_if rfl (fun h => ?_) (fun h => ?_)
  · have hlt : i < li.length := by omega
    obtain ⟨g, o, rfl, hc⟩ := hr.at_ (by rw [List.length_map]; omega)
    have hci := hc i (iV li[i]) (by simp [hlt])
    have hmem := List.getElem_mem hlt
    refine X_skip ?_
    refine X_seq ?_
    refine X_block ?_
    refine X_seq ?_
    refine X_reg ?_
    refine XR_a (op_move rfl) rfl rfl ?_
    refine XR_a (op_move rfl) rfl rfl ?_
    first | refine XR_a (op_index1 rfl rfl rfl (by omega)) rfl rfl ?_ | refine XR_a (op_index rfl rfl rfl (by omega)) rfl rfl ?_
    refine XR_a (op_ld (hci) rfl rfl rfl) rfl rfl ?_
    refine XR_a (op_lss rfl rfl) rfl rfl ?_
    refine XR_a (op_move rfl) rfl rfl ?_
    refine XR_if 17 rfl (fun h => ?_) (fun h => ?_)
    · refine XR_no rfl rfl ?_
      refine XR_no rfl rfl ?_
      refine XR_no rfl rfl ?_
      refine XR_no rfl rfl ?_
      refine XR_no rfl rfl ?_
      refine XR_no rfl rfl ?_
      refine XR_a (op_pick_t rfl rfl) rfl rfl ?_
      refine XR_nil ?_
      refine X_then rfl ?_
      refine X_seq ?_
      refine X_reg ?_
      refine XR_a (op_assign rfl) rfl rfl ?_
      refine XR_nil ?_
      refine X_ret (.cons (.tmp rfl) .nil) ?_
      refine ⟨congrArg Value.bool (decide_eq_false fun hh => ?_).symm, rfl⟩
      have := hh.2 _ hmem
      omega
    · refine XR_a (op_move rfl) rfl rfl ?_
      refine XR_a (op_move rfl) rfl rfl ?_
      first | refine XR_a (op_index1 rfl rfl rfl (by omega)) rfl rfl ?_ | refine XR_a (op_index rfl rfl rfl (by omega)) rfl rfl ?_
      refine XR_a (op_ld (hci) rfl rfl rfl) rfl rfl ?_
      refine XR_a (op_move rfl) rfl rfl ?_
      refine XR_a (op_gtr rfl rfl) rfl rfl ?_
      refine XR_a (op_pick_f rfl rfl) rfl rfl ?_
      refine XR_nil ?_
      refine X_if rfl (fun h => ?_) (fun h => ?_)
      · refine X_seq ?_
        refine X_reg ?_
        refine XR_a (op_assign rfl) rfl rfl ?_
        refine XR_nil ?_
        refine X_ret (.cons (.tmp rfl) .nil) ?_
        refine ⟨congrArg Value.bool (decide_eq_false fun hh => ?_).symm, rfl⟩
        have := hh.2 _ hmem
        omega
      · refine X_skip ?_
        refine X_blk ?_
        refine X_reg ?_
        refine XR_a (op_move rfl) rfl rfl ?_
        first | refine XR_a (op_addN (n := 1) rfl rfl (by simp only [inK]; omega)) rfl rfl ?_ | refine XR_a (op_addI rfl rfl (by simp only [inK]; omega)) rfl rfl ?_ | refine XR_a (op_add rfl rfl) rfl rfl ?_
        refine XR_a (op_assign rfl) rfl rfl ?_
        refine XR_nil ?_
        refine X_again (i + 1) (.cons rfl (.cons rfl (.cons rfl (.nil _)))) ⟨rfl, by omega, fun x hx => ?_⟩ (by omega)
        rw [List.take_succ_eq_append_getElem hlt] at hx
        rcases List.mem_append.1 hx with h1 | h1
        · exact hall x h1
        · obtain rfl : x = li[i] := by simpa using h1
          omega
  · refine X_exit rfl ?_
    refine X_seq ?_
    refine X_reg ?_
    refine XR_a (op_move rfl) rfl rfl ?_
    refine XR_a (op_len rfl rfl rfl) rfl rfl ?_
    refine XR_a (op_lss rfl rfl) rfl rfl ?_
    refine XR_a (op_assign rfl) rfl rfl ?_
    refine XR_nil ?_
    refine X_ret (.cons (.tmp rfl) .nil) ?_
    refine ⟨congrArg Value.bool (decide_eq_decide.2 ⟨fun hh => ⟨by omega, fun x hx => hall x (by rw [List.take_of_length_le (by omega)]; exact hx)⟩, fun hh => by have := hh.1; omega⟩), rfl⟩

theorem kraft_snoc (ls : List Nat) (x : Nat) : kraft (ls ++ [x]) = kraft ls + unitK x := by simp [kraft]
theorem kraft_bd : ∀ ls : List Nat, kraft ls ≤ ls.length * 32768
  | [] => by simp [kraft]
  | x :: ls => by
    have ih := kraft_bd ls
    have e : kraft (x :: ls) = unitK x + kraft ls := rfl
    have : unitK x ≤ 32768 := by
      unfold unitK
      split
      · omega
      · exact Nat.le_trans (Nat.pow_le_pow_right (n := 2) (by omega) (show 15 - x ≤ 15 by omega)) (by decide)
    rw [e, List.length_cons, Nat.add_mul]; omega
theorem sum_ref {n c : Nat} {A : Option Addr} {ls : List Nat} {h0 : Heap} (hr : Rd h0 A (ls.map nV)) (hl : ls.length = n) (hn : n ≤ 1048576) (hb : ∀ x ∈ ls, x ≤ 15) :
    Ret Try.prog 38 [.slice A n c] h0 fun v h' => v = .int .i64 (kraft ls : Nat) ∧ h0 = h' := by
  refine ret_of_X Try.func38 rfl rfl fun w0 hw0 => ?_
  simp only [argE, Nat.zero_add, Nat.reduceAdd]
  refine X_seq ?_
  refine X_reg ?_
  refine XR_a (op_assign rfl) rfl rfl ?_
  refine XR_nil ?_
  refine X_seq ?_
  refine X_reg ?_
  refine XR_a (op_assign rfl) rfl rfl ?_
  refine XR_nil ?_
  refine X_seq ?_
  refine X_seq ?_
  refine X_reg ?_
  refine XR_a (op_assign rfl) rfl rfl ?_
  refine XR_nil ?_
  refine X_block ?_
  refine X_loop (fun i => n - i) (fun i => [(0, .slice A n c), (3, .int .i64 (kraft (ls.take i) : Nat)), (4, .int .i64 (i : Int))])
    (fun (i : Nat) hp => hp = h0 ∧ i ≤ n)
    0 (.cons rfl (.cons rfl (.cons rfl (.nil _)))) ⟨rfl, by omega⟩ ?_
  rintro i hp ⟨rfl, hi⟩
  refine X_seq ?_
  refine X_seq ?_
  refine X_reg ?_
  refine XR_a (op_move rfl) rfl rfl ?_
  refine XR_a (op_move rfl) rfl rfl ?_
  refine XR_a (op_len rfl rfl rfl) rfl rfl ?_
  refine XR_a (op_lss rfl rfl) rfl rfl ?_
  refine XR_nil ?_
  refine X_if rfl (fun h => ?_) (fun h => ?_)
  · have hlt : i < ls.length := by omega
    obtain ⟨g, o, rfl, hc⟩ := hr.at_ (by rw [List.length_map]; omega)
    have hci := hc i (nV ls[i]) (by simp [hlt])
    have hx := hb ls[i] (List.getElem_mem hlt)
    have hks := kraft_snoc (ls.take i) ls[i]
    rw [← List.take_succ_eq_append_getElem hlt] at hks
    have hkb := kraft_bd (ls.take i)
    have hkl : (ls.take i).length * 32768 ≤ 1048576 * 32768 := Nat.mul_le_mul_right _ (by rw [List.length_take]; omega)
    refine X_skip ?_
    refine X_seq ?_
    refine X_block ?_
    refine X_seq ?_
    refine X_seq ?_
    refine X_reg ?_
    refine XR_a (op_move rfl) rfl rfl ?_
    refine XR_a (op_move rfl) rfl rfl ?_
    first | refine XR_a (op_index1 rfl rfl rfl (by omega)) rfl rfl ?_ | refine XR_a (op_index rfl rfl rfl (by omega)) rfl rfl ?_
    refine XR_a (op_ld (hci) rfl rfl rfl) rfl rfl ?_
    refine XR_a (op_eql rfl rfl) rfl rfl ?_
    refine XR_nil ?_
    refine X_if rfl (fun h => ?_) (fun h => ?_)
    · refine X_exit rfl ?_
      refine X_reg ?_
      refine XR_a (op_move rfl) rfl rfl ?_
      first | refine XR_a (op_addN (n := 1) rfl rfl (by simp only [inK]; omega)) rfl rfl ?_ | refine XR_a (op_addI rfl rfl (by simp only [inK]; omega)) rfl rfl ?_ | refine XR_a (op_add rfl rfl) rfl rfl ?_
      refine XR_a (op_assign rfl) rfl rfl ?_
      refine XR_nil ?_
      have h0 : ls[i] = 0 := by omega
      rw [h0] at hks
      exact X_again (i + 1) (.cons rfl (.cons (by rw [hks]; rfl) (.cons rfl (.nil _)))) ⟨rfl, by omega⟩ (by omega)
    · refine X_skip ?_
      refine X_seq ?_
      refine X_reg ?_
      refine XR_a (op_assign rfl) rfl rfl ?_
      refine XR_nil ?_
      refine X_seq ?_
      refine X_seq ?_
      refine X_reg ?_
      refine XR_a (op_move rfl) rfl rfl ?_
      refine XR_a (op_move rfl) rfl rfl ?_
      first | refine XR_a (op_index1 rfl rfl rfl (by omega)) rfl rfl ?_ | refine XR_a (op_index rfl rfl rfl (by omega)) rfl rfl ?_
      refine XR_a (op_ld (hci) rfl rfl rfl) rfl rfl ?_
      refine XR_a (op_assign rfl) rfl rfl ?_
      refine XR_nil ?_
      refine X_block ?_
      obtain ⟨x, hxe⟩ : ∃ x, ls[i] = x := ⟨_, rfl⟩
      rw [hxe] at hx hks
      have hx0 : x ≠ 0 := by omega
      refine X_loop (fun k => 15 - k) (fun k => [(0, .slice (some ⟨g, o, none⟩) n c), (3, .int .i64 (kraft (ls.take i) : Nat)), (4, .int .i64 (i : Int)), (5, .int .i64 (2 ^ (k - x) : Nat)), (6, .int .i64 (k : Int))])
        (fun (k : Nat) hp' => hp' = hp ∧ x ≤ k ∧ k ≤ 15)
        x (.cons rfl (.cons rfl (.cons rfl (.cons (by rw [Nat.sub_self]; rfl) (.cons (by rw [hxe]; rfl) (.nil _)))))) ⟨rfl, by omega, hx⟩ ?_
      rintro k hp2 ⟨rfl, hk1, hk2⟩
      have hpw : 2 ^ (k - x) ≤ 32768 := Nat.le_trans (Nat.pow_le_pow_right (n := 2) (by omega) (show k - x ≤ 15 by omega)) (by decide)
      refine X_seq ?_
      refine X_seq ?_
      refine X_reg ?_
      refine XR_a (op_move rfl) rfl rfl ?_
      refine XR_a (op_lss rfl rfl) rfl rfl ?_
      refine XR_nil ?_
      refine X_if rfl (fun h => ?_) (fun h => ?_)
      · refine X_skip ?_
        refine X_seq ?_
        refine X_block ?_
        refine X_reg ?_
        refine XR_a (op_move rfl) rfl rfl ?_
        refine XR_a (op_mulN (m := 2 ^ (k - x)) (n := 2) rfl rfl (by simp only [inK]; omega)) rfl rfl ?_
        refine XR_a (op_assign rfl) rfl rfl ?_
        refine XR_nil ?_
        refine X_blk ?_
        refine X_reg ?_
        refine XR_a (op_move rfl) rfl rfl ?_
        first | refine XR_a (op_addN (n := 1) rfl rfl (by simp only [inK]; omega)) rfl rfl ?_ | refine XR_a (op_addI rfl rfl (by simp only [inK]; omega)) rfl rfl ?_ | refine XR_a (op_add rfl rfl) rfl rfl ?_
        refine XR_a (op_assign rfl) rfl rfl ?_
        refine XR_nil ?_
        exact X_again (k + 1) (.cons rfl (.cons rfl (.cons rfl (.cons (by rw [show k + 1 - x = (k - x) + 1 by omega, Nat.pow_succ]; rfl) (.cons rfl (.nil _)))))) ⟨rfl, by omega, by omega⟩ (by omega)
      · obtain rfl : k = 15 := by omega
        have hu : unitK x = 2 ^ (15 - x) := by unfold unitK; rw [if_neg hx0]
        refine X_exit rfl ?_
        refine X_reg ?_
        refine XR_a (op_move rfl) rfl rfl ?_
        refine XR_a (op_move rfl) rfl rfl ?_
        refine XR_a (op_addN (m := kraft (ls.take i)) (n := 2 ^ (15 - x)) rfl rfl (by simp only [inK]; omega)) rfl rfl ?_
        refine XR_a (op_assign rfl) rfl rfl ?_
        refine XR_nil ?_
        refine X_blk ?_
        refine X_reg ?_
        refine XR_a (op_move rfl) rfl rfl ?_
        first | refine XR_a (op_addN (n := 1) rfl rfl (by simp only [inK]; omega)) rfl rfl ?_ | refine XR_a (op_addI rfl rfl (by simp only [inK]; omega)) rfl rfl ?_ | refine XR_a (op_add rfl rfl) rfl rfl ?_
        refine XR_a (op_assign rfl) rfl rfl ?_
        refine XR_nil ?_
        exact X_again (i + 1) (.cons rfl (.cons (by rw [hks, hu]; rfl) (.cons rfl (.nil _)))) ⟨rfl, by omega⟩ (by omega)
  · refine X_exit rfl ?_
    refine X_seq ?_
    refine X_reg ?_
    refine XR_a (op_move rfl) rfl rfl ?_
    refine XR_a (op_assign rfl) rfl rfl ?_
    refine XR_nil ?_
    refine X_ret (.cons (.tmp rfl) .nil) ?_
    rw [List.take_of_length_le (by omega)]
    exact ⟨rfl, rfl⟩

theorem ints_ref {n m c d : Nat} {A B : Option Addr} {la lb : List Int} {h0 : Heap} (hr : Rd h0 A (la.map iV)) (hl : la.length = n) (hs : Rd h0 B (lb.map iV)) (hm : lb.length = m) (hn : n ≤ 17592186044416) :
    Ret Try.prog 33 [.slice A n c, .slice B m d] h0 fun v h' => v = .bool (decide (la = lb)) ∧ h0 = h' := by
  refine ret_of_X Try.func33 rfl rfl fun w0 hw0 => ?_
  simp only [argE, Nat.zero_add, Nat.reduceAdd]
  refine X_seq ?_
  refine X_reg ?_
  refine XR_a (op_assign rfl) rfl rfl ?_
  refine XR_nil ?_
  refine X_seq ?_
  refine X_seq ?_
  refine X_reg ?_
  refine XR_a (op_move rfl) rfl rfl ?_
  refine XR_a (op_len rfl rfl rfl) rfl rfl ?_
  refine XR_a (op_move rfl) rfl rfl ?_
  refine XR_a (op_len rfl rfl rfl) rfl rfl ?_
  refine XR_a (op_neq rfl rfl) rfl rfl ?_
  refine XR_nil ?_
  refine X_if rfl (fun h => ?_) (fun h => ?_)
  · refine X_seq ?_
    refine X_reg ?_
    refine XR_a (op_assign rfl) rfl rfl ?_
    refine XR_nil ?_
    refine X_ret (.cons (.tmp rfl) .nil) ?_
    refine ⟨congrArg Value.bool (decide_eq_false fun hh => ?_).symm, rfl⟩
    subst hh; omega
  · refine X_skip ?_
    refine X_seq ?_
    refine X_seq ?_
    refine X_reg ?_
    refine XR_a (op_assign rfl) rfl rfl ?_
    refine XR_nil ?_
    refine X_block ?_
    obtain rfl : n = m := by omega
    refine X_loop (fun i => n - i) (fun i => [(0, .slice A n c), (1, .slice B n d), (5, .int .i64 (i : Int))])
      (fun (i : Nat) hp => hp = h0 ∧ i ≤ n ∧ la.take i = lb.take i)
      0 (.cons rfl (.cons rfl (.cons rfl (.nil _)))) ⟨rfl, by omega, by simp⟩ ?_
    rintro i hp ⟨rfl, hi, heq⟩
    refine X_seq ?_
    refine X_seq ?_
    refine X_reg ?_
    refine XR_a (op_move rfl) rfl rfl ?_
    refine XR_a (op_move rfl) rfl rfl ?_
    refine XR_a (op_len rfl rfl rfl) rfl rfl ?_
    refine XR_a (op_lss rfl rfl) rfl rfl ?_
    refine XR_nil ?_
    refine X_if rfl (fun h => ?_) (fun h => ?_)
    · have hla : i < la.length := by omega
      have hlb : i < lb.length := by omega
      obtain ⟨g, o, rfl, hc⟩ := hr.at_ (by rw [List.length_map]; omega)
      obtain ⟨g2, o2, rfl, hc2⟩ := hs.at_ (by rw [List.length_map]; omega)
      have hci := hc i (iV la[i]) (by simp [hla])
      have hci2 := hc2 i (iV lb[i]) (by simp [hlb])
      refine X_skip ?_
      refine X_seq ?_
      refine X_block ?_
      refine X_seq ?_
      refine X_draw byKind (by kernel_rfl) (by kernel_rfl) ?_
      refine XR_a (op_move rfl) rfl rfl ?_
      refine XR_a (op_move rfl) rfl rfl ?_
      first | refine XR_a (op_index1 rfl rfl rfl (by omega)) rfl rfl ?_ | refine XR_a (op_index rfl rfl rfl (by omega)) rfl rfl ?_
      refine XR_a (op_ld (hci) rfl rfl rfl) rfl rfl ?_
      refine XR_a (op_move rfl) rfl rfl ?_
      refine XR_a (op_move rfl) rfl rfl ?_
      first | refine XR_a (op_index1 rfl rfl rfl (by omega)) rfl rfl ?_ | refine XR_a (op_index rfl rfl rfl (by omega)) rfl rfl ?_
      refine XR_a (op_ld (hci2) rfl rfl rfl) rfl rfl ?_
      refine XR_a (op_neq rfl rfl) rfl rfl ?_
      refine XR_nil ?_
      refine X_if rfl (fun h => ?_) (fun h => ?_)
      · refine X_seq ?_
        refine X_reg ?_
        refine XR_a (op_assign rfl) rfl rfl ?_
        refine XR_nil ?_
        refine X_ret (.cons (.tmp rfl) .nil) ?_
        refine ⟨congrArg Value.bool (decide_eq_false fun hh => ?_).symm, rfl⟩
        subst hh
        exact h rfl
      · refine X_skip ?_
        refine X_blk ?_
        refine X_reg ?_
        refine XR_a (op_move rfl) rfl rfl ?_
        first | refine XR_a (op_addN (n := 1) rfl rfl (by simp only [inK]; omega)) rfl rfl ?_ | refine XR_a (op_addI rfl rfl (by simp only [inK]; omega)) rfl rfl ?_ | refine XR_a (op_add rfl rfl) rfl rfl ?_
        refine XR_a (op_assign rfl) rfl rfl ?_
        refine XR_nil ?_
        refine X_again (i + 1) (.cons rfl (.cons rfl (.cons rfl (.nil _)))) ⟨rfl, by omega, ?_⟩ (by omega)
        rw [List.take_succ_eq_append_getElem hla, List.take_succ_eq_append_getElem hlb, heq, Decidable.not_not.1 h]
    · refine X_exit rfl ?_
      refine X_seq ?_
      refine X_reg ?_
      refine XR_a (op_assign rfl) rfl rfl ?_
      refine XR_nil ?_
      refine X_ret (.cons (.tmp rfl) .nil) ?_
      rw [List.take_of_length_le (by omega), List.take_of_length_le (by omega)] at heq
      exact ⟨by rw [decide_eq_true heq]; rfl, rfl⟩

theorem sum_take_succ {ls : List Nat} {i : Nat} (h : i < ls.length) : (ls.take (i + 1)).sum = (ls.take i).sum + ls[i] := by
  rw [List.take_succ_eq_append_getElem h, List.sum_append]; simp
theorem sum_le15 : ∀ (ls : List Nat), (∀ x ∈ ls, x ≤ 15) → ls.sum ≤ 15 * ls.length
  | [], _ => by simp
  | x :: ls, h => by
    have := sum_le15 ls fun y hy => h y (List.mem_cons_of_mem _ hy)
    have := h x List.mem_cons_self
    simp only [List.sum_cons, List.length_cons]; omega
theorem bounded_nat {li : List Int} {most : Int} (h : boundedB most li) : li.map iV = (li.map Int.toNat).map nV := by
  rw [nV_iV, toNat_map fun x hx => (h.2 x hx).1]
theorem right08_ref {n c : Nat} {A : Option Addr} {li : List Int} {h0 : Heap} (hr : Rd h0 A (li.map iV)) (hl : li.length = n) (hn : n ≤ 17592186044416) :
    Ret Try.prog 81 [.slice A n c] h0 fun v h' => v = .bool (decide (rightC li)) ∧ h0 = h' := by
  refine ret_of_X Try.func81 rfl rfl fun w0 hw0 => ?_
  simp only [argE, Nat.zero_add, Nat.reduceAdd]
  refine X_seq ?_
  refine X_reg ?_
  refine XR_a (op_assign rfl) rfl rfl ?_
  refine XR_nil ?_
  refine X_seq ?_
  refine X_seq ?_
  refine X_reg ?_
  refine XR_a (op_move rfl) rfl rfl ?_
  refine XR_a (op_len rfl rfl rfl) rfl rfl ?_
  refine XR_a (op_lss rfl rfl) rfl rfl ?_
  refine XR_a (op_move rfl) rfl rfl ?_
  refine XR_if 8 rfl (fun h => ?_) (fun h => ?_)
  · refine XR_no rfl rfl ?_
    refine XR_no rfl rfl ?_
    refine XR_no rfl rfl ?_
    refine XR_a (op_pick_t rfl rfl) rfl rfl ?_
    refine XR_nil ?_
    refine X_then rfl ?_
    refine X_seq ?_
    refine X_reg ?_
    refine XR_a (op_assign rfl) rfl rfl ?_
    refine XR_nil ?_
    refine X_ret (.cons (.tmp rfl) .nil) ?_
    exact ⟨congrArg Value.bool (decide_eq_false fun hh => by have := hh.1; omega).symm, rfl⟩
  · refine XR_a (op_move rfl) rfl rfl ?_
    refine XR_wa (opl_call (right_ref 15 hr hl hn) rfl (by kernel_rfl)) rfl rfl rfl ?_
    rintro _ _ ⟨rfl, rfl⟩
    first | refine XR_a (op_notd rfl) rfl rfl ?_ | refine XR_a (op_not rfl) rfl rfl ?_
    refine XR_a (op_pick_f rfl rfl) rfl rfl ?_
    refine XR_nil ?_
    refine X_cond rfl (fun h => ?_) (fun h => ?_)
    · refine X_seq ?_
      refine X_reg ?_
      refine XR_a (op_assign rfl) rfl rfl ?_
      refine XR_nil ?_
      refine X_ret (.cons (.tmp rfl) .nil) ?_
      refine ⟨congrArg Value.bool (decide_eq_false fun hh => ?_).symm, rfl⟩
      simp [hh.2.1] at h
    · refine X_skip ?_
      refine X_seq ?_
      have hbB : boundedB 15 li := by simpa using h
      have hr2 : Rd h0 A ((li.map Int.toNat).map nV) := by rw [← bounded_nat hbB]; exact hr
      have hb15 : ∀ x ∈ li.map Int.toNat, x ≤ 15 := by
        intro x hx
        obtain ⟨y, hy, rfl⟩ := List.mem_map.1 hx
        have := hbB.2 y hy; omega
      have hRC : rightC li ↔ kraft (li.map Int.toNat) = 32768 ∨ (li.map Int.toNat).sum = 1 := ⟨fun hh => hh.2.2, fun hh => ⟨by omega, hbB, hh⟩⟩
      have hl2 : (li.map Int.toNat).length = n := by rw [List.length_map]; exact hl
      obtain ⟨ls, hls⟩ : ∃ ls, li.map Int.toNat = ls := ⟨_, rfl⟩
      rw [hls] at hr2 hb15 hRC hl2
      refine X_reg ?_
      refine XR_a (op_assign rfl) rfl rfl ?_
      refine XR_nil ?_
      refine X_seq ?_
      refine X_seq ?_
      refine X_reg ?_
      refine XR_a (op_assign rfl) rfl rfl ?_
      refine XR_nil ?_
      refine X_block ?_
      refine X_loop (fun i => n - i) (fun i => [(0, .slice A n c), (3, .int .i64 ((ls.take i).sum : Nat)), (4, .int .i64 (i : Int))])
        (fun (i : Nat) hp => hp = h0 ∧ i ≤ n)
        0 (.cons rfl (.cons rfl (.cons rfl (.nil _)))) ⟨rfl, by omega⟩ ?_
      rintro i hp ⟨rfl, hi⟩
      refine X_seq ?_
      refine X_seq ?_
      refine X_reg ?_
      refine XR_a (op_move rfl) rfl rfl ?_
      refine XR_a (op_move rfl) rfl rfl ?_
      refine XR_a (op_len rfl rfl rfl) rfl rfl ?_
      refine XR_a (op_lss rfl rfl) rfl rfl ?_
      refine XR_nil ?_
      refine X_if rfl (fun h => ?_) (fun h => ?_)
      · have hlt : i < ls.length := by omega
        obtain ⟨g, o, rfl, hc⟩ := hr2.at_ (by rw [List.length_map]; omega)
        have hci := hc i (nV ls[i]) (by simp [hlt])
        have hss := sum_take_succ hlt
        have hsl := sum_le15 (ls.take (i + 1)) fun x hx => hb15 x (List.mem_of_mem_take hx)
        have hlen : (ls.take (i + 1)).length ≤ 320 := by have := hbB.1; rw [List.length_take]; omega
        refine X_skip ?_
        refine X_seq ?_
        refine X_block ?_
        refine X_reg ?_
        refine XR_a (op_move rfl) rfl rfl ?_
        refine XR_a (op_move rfl) rfl rfl ?_
        refine XR_a (op_move rfl) rfl rfl ?_
        first | refine XR_a (op_index1 rfl rfl rfl (by omega)) rfl rfl ?_ | refine XR_a (op_index rfl rfl rfl (by omega)) rfl rfl ?_
        refine XR_a (op_ld (hci) rfl rfl rfl) rfl rfl ?_
        refine XR_a (op_addN (m := (ls.take i).sum) (n := ls[i]) rfl rfl (by simp only [inK]; omega)) rfl rfl ?_
        refine XR_a (op_assign rfl) rfl rfl ?_
        refine XR_nil ?_
        refine X_blk ?_
        refine X_reg ?_
        refine XR_a (op_move rfl) rfl rfl ?_
        first | refine XR_a (op_addN (n := 1) rfl rfl (by simp only [inK]; omega)) rfl rfl ?_ | refine XR_a (op_addI rfl rfl (by simp only [inK]; omega)) rfl rfl ?_ | refine XR_a (op_add rfl rfl) rfl rfl ?_
        refine XR_a (op_assign rfl) rfl rfl ?_
        refine XR_nil ?_
        exact X_again (i + 1) (.cons rfl (.cons (by rw [hss]; rfl) (.cons rfl (.nil _)))) ⟨rfl, by omega⟩ (by omega)
      · obtain rfl : i = n := by omega
        rw [show ls.take i = ls from List.take_of_length_le (by omega)]
        refine X_exit rfl ?_
        refine X_seq ?_
        refine X_reg ?_
        refine XR_a (op_move rfl) rfl rfl ?_
        refine XR_a (op_eql rfl rfl) rfl rfl ?_
        refine XR_a (op_move rfl) rfl rfl ?_
        refine XR_if 27 rfl (fun h => ?_) (fun h => ?_)
        · refine XR_no rfl rfl ?_
          refine XR_no rfl rfl ?_
          refine XR_no rfl rfl ?_
          refine XR_a (op_pick_t rfl rfl) rfl rfl ?_
          refine XR_a (op_assign rfl) rfl rfl ?_
          refine XR_nil ?_
          refine X_ret (.cons (.tmp rfl) .nil) ?_
          exact ⟨congrArg Value.bool (decide_eq_true (hRC.2 (.inr (by omega)))).symm, rfl⟩
        · refine XR_a (op_move rfl) rfl rfl ?_
          refine XR_wa (opl_call (sum_ref hr2 hl2 (by have := hbB.1; omega) hb15) rfl (by kernel_rfl)) rfl rfl rfl ?_
          rintro _ _ ⟨rfl, rfl⟩
          refine XR_a (op_eql rfl rfl) rfl rfl ?_
          refine XR_a (op_pick_f rfl rfl) rfl rfl ?_
          refine XR_a (op_assign rfl) rfl rfl ?_
          refine XR_nil ?_
          refine X_ret (.cons (.tmp rfl) .nil) ?_
          refine ⟨congrArg Value.bool (decide_eq_decide.2 ⟨fun hh => hRC.2 (.inl (by omega)), fun hh => ?_⟩), rfl⟩
          rcases hRC.1 hh with h1 | h1 <;> omega

theorem values08_ref {n c : Nat} {A : Option Addr} {ls : List Nat} {h0 : Heap} (hr : Rd h0 A (ls.map nV)) (hl : ls.length = n) (hok : lensOK ls) :
    Ret Try.prog 82 [.slice A n c] h0 fun v h' => St h0.size h0 h' [row 3 1 v ((vals ls).map nV)] := by
  have hn := hok.2.1
  have hn1 := hok.1
  obtain ⟨gA, oA, rfl, hcA⟩ := hr.at_ (by rw [List.length_map]; omega)
  refine ret_of_X Try.func82 rfl rfl fun w0 hw0 => ?_
  simp only [argE, Nat.zero_add, Nat.reduceAdd]
  have st := St.start h0
  refine X_seq ?_
  refine X_reg ?_
  refine XR_a (op_assign rfl) rfl rfl ?_
  refine XR_nil ?_
  refine X_seq ?_
  refine X_reg ?_
  refine XR_a (op_move rfl) rfl rfl ?_
  refine XR_a (op_len rfl rfl rfl) rfl rfl ?_
  refine XR_wa (opl_mk (by omega) rfl rfl rfl) rfl rfl rfl ?_
  rintro v hp hnew
  have st := st.new hnew
  refine XR_a (op_assign rfl) rfl rfl ?_
  refine XR_nil ?_
  refine X_seq ?_
  refine X_reg ?_
  refine XR_a (op_assign rfl) rfl rfl ?_
  refine XR_a (op_assign rfl) rfl rfl ?_
  refine XR_nil ?_
  refine X_seq ?_
  refine X_seq ?_
  refine X_reg ?_
  refine XR_a (op_assign rfl) rfl rfl ?_
  refine XR_nil ?_
  refine X_block ?_
  obtain ⟨gb, nb, cb, rfl, hlb, _, _, _⟩ := st.row0 0 rfl (by rw [List.length_replicate]; omega)
  obtain rfl : nb = n := by rw [List.length_replicate] at hlb; omega
  rw [show List.replicate nb (Value.int IntKind.i64 0) = List.replicate ls.length (iV 0) by rw [hl], zeros_val] at st
  refine X_loop (fun s => 16 - s.1) (fun s => [(0, .slice (some ⟨gA, oA, none⟩) nb c), (3, .slice (some ⟨gb, 0, none⟩) nb cb), (4, .int .i64 (s.2.1 : Nat)), (5, .int .i64 (s.2.2 : Nat)), (6, .int .i64 (s.1 : Nat))])
    (fun (s : Nat × Nat × Nat) hp => St h0.size h0 hp [row 3 1 (.slice (some ⟨gb, 0, none⟩) nb cb) (((List.range ls.length).map (valAt ls s.1 0)).map nV)] ∧ 1 ≤ s.1 ∧ s.1 ≤ 16 ∧ refAt ls s.1 0 s.2.1 s.2.2)
    (1, 0, 0) (.cons rfl (.cons rfl (.cons rfl (.cons rfl (.cons rfl (.nil _)))))) ⟨st, by simp, by simp, .inl ⟨rfl, rfl, fun m h1 h2 => by simp only at h2; omega, by simp⟩⟩ ?_
  clear st
  rintro ⟨m, next, last⟩ hp ⟨st, hm1, hm16, href⟩
  simp only at st hm1 hm16 href ⊢
  refine X_seq ?_
  refine X_seq ?_
  refine X_reg ?_
  refine XR_a (op_move rfl) rfl rfl ?_
  refine XR_a (op_leq rfl rfl) rfl rfl ?_
  refine XR_nil ?_
  refine X_if rfl (fun h => ?_) (fun h => ?_)
  · have hm15 : m ≤ 15 := by omega
    have hbd := fst_bd hok hm15
    have hcm := cn_pos (n := m) ls (by omega)
    refine X_skip ?_
    refine X_seq ?_
    refine X_block ?_
    refine X_seq ?_
    refine X_reg ?_
    refine XR_a (op_assign rfl) rfl rfl ?_
    refine XR_nil ?_
    refine X_block ?_
    refine X_loop (fun s => nb - s.1) (fun s => [(0, .slice (some ⟨gA, oA, none⟩) nb c), (3, .slice (some ⟨gb, 0, none⟩) nb cb), (4, .int .i64 (s.2.1 : Nat)), (5, .int .i64 (s.2.2 : Nat)), (6, .int .i64 (m : Nat)), (7, .int .i64 (s.1 : Nat))])
      (fun (s : Nat × Nat × Nat) hp => St h0.size h0 hp [row 3 1 (.slice (some ⟨gb, 0, none⟩) nb cb) (((List.range ls.length).map (valAt ls m s.1)).map nV)] ∧ s.1 ≤ nb ∧ refAt ls m s.1 s.2.1 s.2.2)
      (0, next, last) (.cons rfl (.cons rfl (.cons rfl (.cons rfl (.cons rfl (.cons rfl (.nil _))))))) ⟨st, by simp, href⟩ ?_
    clear st href
    rintro ⟨s, next, last⟩ hp ⟨st, hs, href⟩
    simp only at st hs href ⊢
    refine X_seq ?_
    refine X_seq ?_
    refine X_reg ?_
    refine XR_a (op_move rfl) rfl rfl ?_
    refine XR_a (op_move rfl) rfl rfl ?_
    refine XR_a (op_len rfl rfl rfl) rfl rfl ?_
    refine XR_a (op_lss rfl rfl) rfl rfl ?_
    refine XR_nil ?_
    refine X_if rfl (fun h => ?_) (fun h => ?_)
    · have hsn : s < ls.length := by omega
      have hcs := hcA s (nV ls[s]) (by simp [hsn])
      have hctl : (ls.take s).count m ≤ ls.count m := (List.take_sublist _ _).count_le _
      refine X_skip ?_
      refine X_seq ?_
      refine X_block ?_
      refine X_seq ?_
      refine X_seq ?_
      refine X_reg ?_
      refine XR_a (op_move rfl) rfl rfl ?_
      refine XR_a (op_move rfl) rfl rfl ?_
      first | refine XR_a (op_index1 rfl rfl rfl (by omega)) rfl rfl ?_ | refine XR_a (op_index rfl rfl rfl (by omega)) rfl rfl ?_
      refine XR_a (op_ld ((cellH_ext (a := ⟨gA, oA + s, none⟩) st.low hcs)) rfl rfl rfl) rfl rfl ?_
      refine XR_a (op_move rfl) rfl rfl ?_
      refine XR_a (op_neq rfl rfl) rfl rfl ?_
      refine XR_nil ?_
      refine X_if rfl (fun h => ?_) (fun h => ?_)
      · refine X_exit rfl ?_
        refine X_reg ?_
        refine XR_a (op_move rfl) rfl rfl ?_
        first | refine XR_a (op_addN (n := 1) rfl rfl (by simp only [inK]; omega)) rfl rfl ?_ | refine XR_a (op_addI rfl rfl (by simp only [inK]; omega)) rfl rfl ?_ | refine XR_a (op_add rfl rfl) rfl rfl ?_
        refine XR_a (op_assign rfl) rfl rfl ?_
        refine XR_nil ?_
        have hne : ls[s] ≠ m := by omega
        rw [valAt_skip hsn hne] at st
        exact X_again (s + 1, next, last) (.cons rfl (.cons rfl (.cons rfl (.cons rfl (.cons rfl (.cons rfl (.nil _))))))) ⟨st, by simp only; omega, refAt_skip hsn hne href⟩ (by simp only; omega)
      · refine X_skip ?_
        refine X_seq ?_
        refine X_block ?_
        have hsm : ls[s] = m := by omega
        refine X_loop (fun t => m - t.2) (fun t => [(0, .slice (some ⟨gA, oA, none⟩) nb c), (3, .slice (some ⟨gb, 0, none⟩) nb cb), (4, .int .i64 (t.1 : Nat)), (5, .int .i64 (t.2 : Nat)), (6, .int .i64 (m : Nat)), (7, .int .i64 (s : Nat))])
          (fun (t : Nat × Nat) hp' => hp' = hp ∧ refAt ls m s t.1 t.2)
          (next, last) (.cons rfl (.cons rfl (.cons rfl (.cons rfl (.cons rfl (.cons rfl (.nil _))))))) ⟨rfl, href⟩ ?_
        clear href
        rintro ⟨next, last⟩ hp2 ⟨rfl, href⟩
        simp only at href ⊢
        refine X_seq ?_
        refine X_seq ?_
        refine X_reg ?_
        refine XR_a (op_move rfl) rfl rfl ?_
        refine XR_a (op_gtr rfl rfl) rfl rfl ?_
        refine XR_a (op_move rfl) rfl rfl ?_
        refine XR_if 29 rfl (fun h => ?_) (fun h => ?_)
        · refine XR_a (op_move rfl) rfl rfl ?_
          refine XR_a (op_move rfl) rfl rfl ?_
          refine XR_a (op_lss rfl rfl) rfl rfl ?_
          refine XR_a (op_pick_t rfl rfl) rfl rfl ?_
          refine XR_nil ?_
          refine X_if rfl (fun h => ?_) (fun h => ?_)
          · obtain ⟨hd, hdle⟩ := refAt_double (by omega) (by omega) href
            refine X_skip ?_
            refine X_block ?_
            refine X_seq ?_
            refine X_reg ?_
            refine XR_a (op_move rfl) rfl rfl ?_
            refine XR_a (op_mulN (m := next) (n := 2) rfl rfl (by simp only [inK]; omega)) rfl rfl ?_
            refine XR_a (op_assign rfl) rfl rfl ?_
            refine XR_nil ?_
            refine X_reg ?_
            refine XR_a (op_move rfl) rfl rfl ?_
            first | refine XR_a (op_addN (n := 1) rfl rfl (by simp only [inK]; omega)) rfl rfl ?_ | refine XR_a (op_addI rfl rfl (by simp only [inK]; omega)) rfl rfl ?_ | refine XR_a (op_add rfl rfl) rfl rfl ?_
            refine XR_a (op_assign rfl) rfl rfl ?_
            refine XR_nil ?_
            refine X_blk ?_
            exact X_again (next * 2, last + 1) (.cons rfl (.cons rfl (.cons rfl (.cons rfl (.cons rfl (.cons rfl (.nil _))))))) ⟨rfl, hd⟩ (by simp only; omega)
          · refine X_exit rfl ?_
            refine X_seq ?_
            obtain ⟨hnx, hnr⟩ := refAt_hit (by omega) hsn hsm (by omega) href
            have hset := valAt_set hsn hsm (by omega)
            refine X_reg ?_
            refine XR_a (op_move rfl) rfl rfl ?_
            refine XR_a (op_assign rfl) rfl rfl ?_
            refine XR_nil ?_
            refine X_seq ?_
            refine X_reg ?_
            refine XR_a (op_move rfl) rfl rfl ?_
            refine XR_a (op_move rfl) rfl rfl ?_
            refine XR_a (op_move rfl) rfl rfl ?_
            first | refine XR_a (op_index1 rfl rfl rfl (by omega)) rfl rfl ?_ | refine XR_a (op_index rfl rfl rfl (by omega)) rfl rfl ?_
            refine XR_wn (opl_store_row (o := 0) (i := s) (v := nV next) st 0 rfl (congrArg (fun x => some (Value.pointer (some ⟨gb, x, none⟩))) (by omega)) rfl (by simp; omega) rfl rfl) rfl rfl fun _ hp st => ?_
            simp only [List.set_cons_zero, List.set_cons_succ] at st
            rw [map_set_nV, hnx, hset] at st
            refine XR_nil ?_
            refine X_reg ?_
            refine XR_a (op_move rfl) rfl rfl ?_
            first | refine XR_a (op_addN (n := 1) rfl rfl (by simp only [inK]; omega)) rfl rfl ?_ | refine XR_a (op_addI rfl rfl (by simp only [inK]; omega)) rfl rfl ?_ | refine XR_a (op_add rfl rfl) rfl rfl ?_
            refine XR_a (op_assign rfl) rfl rfl ?_
            refine XR_nil ?_
            refine X_blk ?_
            refine X_reg ?_
            refine XR_a (op_move rfl) rfl rfl ?_
            first | refine XR_a (op_addN (n := 1) rfl rfl (by simp only [inK]; omega)) rfl rfl ?_ | refine XR_a (op_addI rfl rfl (by simp only [inK]; omega)) rfl rfl ?_ | refine XR_a (op_add rfl rfl) rfl rfl ?_
            refine XR_a (op_assign rfl) rfl rfl ?_
            refine XR_nil ?_
            exact X_again (s + 1, next + 1, m) (.cons rfl (.cons rfl (.cons rfl (.cons rfl (.cons rfl (.cons rfl (.nil _))))))) ⟨st, by simp only; omega, hnr⟩ (by simp only; omega)
        · refine XR_no rfl rfl ?_
          refine XR_no rfl rfl ?_
          refine XR_no rfl rfl ?_
          refine XR_a (op_pick_f rfl rfl) rfl rfl ?_
          refine XR_nil ?_
          refine X_else rfl ?_
          refine X_exit rfl ?_
          refine X_seq ?_
          obtain ⟨hnx, hnr⟩ := refAt_hit (by omega) hsn hsm (by omega) href
          have hset := valAt_set hsn hsm (by omega)
          refine X_reg ?_
          refine XR_a (op_move rfl) rfl rfl ?_
          refine XR_a (op_assign rfl) rfl rfl ?_
          refine XR_nil ?_
          refine X_seq ?_
          refine X_reg ?_
          refine XR_a (op_move rfl) rfl rfl ?_
          refine XR_a (op_move rfl) rfl rfl ?_
          refine XR_a (op_move rfl) rfl rfl ?_
          first | refine XR_a (op_index1 rfl rfl rfl (by omega)) rfl rfl ?_ | refine XR_a (op_index rfl rfl rfl (by omega)) rfl rfl ?_
          refine XR_wn (opl_store_row (o := 0) (i := s) (v := nV next) st 0 rfl (congrArg (fun x => some (Value.pointer (some ⟨gb, x, none⟩))) (by omega)) rfl (by simp; omega) rfl rfl) rfl rfl fun _ hp st => ?_
          simp only [List.set_cons_zero, List.set_cons_succ] at st
          rw [map_set_nV, hnx, hset] at st
          refine XR_nil ?_
          refine X_reg ?_
          refine XR_a (op_move rfl) rfl rfl ?_
          first | refine XR_a (op_addN (n := 1) rfl rfl (by simp only [inK]; omega)) rfl rfl ?_ | refine XR_a (op_addI rfl rfl (by simp only [inK]; omega)) rfl rfl ?_ | refine XR_a (op_add rfl rfl) rfl rfl ?_
          refine XR_a (op_assign rfl) rfl rfl ?_
          refine XR_nil ?_
          refine X_blk ?_
          refine X_reg ?_
          refine XR_a (op_move rfl) rfl rfl ?_
          first | refine XR_a (op_addN (n := 1) rfl rfl (by simp only [inK]; omega)) rfl rfl ?_ | refine XR_a (op_addI rfl rfl (by simp only [inK]; omega)) rfl rfl ?_ | refine XR_a (op_add rfl rfl) rfl rfl ?_
          refine XR_a (op_assign rfl) rfl rfl ?_
          refine XR_nil ?_
          exact X_again (s + 1, next + 1, m) (.cons rfl (.cons rfl (.cons rfl (.cons rfl (.cons rfl (.cons rfl (.nil _))))))) ⟨st, by simp only; omega, hnr⟩ (by simp only; omega)
    · refine X_exit rfl ?_
      refine X_blk ?_
      refine X_reg ?_
      refine XR_a (op_move rfl) rfl rfl ?_
      first | refine XR_a (op_addN (n := 1) rfl rfl (by simp only [inK]; omega)) rfl rfl ?_ | refine XR_a (op_addI rfl rfl (by simp only [inK]; omega)) rfl rfl ?_ | refine XR_a (op_add rfl rfl) rfl rfl ?_
      refine XR_a (op_assign rfl) rfl rfl ?_
      refine XR_nil ?_
      obtain rfl : s = nb := by omega
      rw [show (valAt ls m s) = valAt ls m ls.length by rw [hl], valAt_next ls m (by omega)] at st
      exact X_again (m + 1, next, last) (.cons rfl (.cons rfl (.cons rfl (.cons rfl (.cons rfl (.nil _)))))) ⟨st, by simp only; omega, by simp only; omega, refAt_next (by omega) (by rw [hl]; exact href)⟩ (by simp only; omega)
  · refine X_exit rfl ?_
    refine X_seq ?_
    refine X_reg ?_
    refine XR_a (op_move rfl) rfl rfl ?_
    refine XR_a (op_assign rfl) rfl rfl ?_
    refine XR_nil ?_
    refine X_ret (.cons (.tmp rfl) .nil) ?_
    obtain rfl : m = 16 := by omega
    rw [valAt_full ls hok.2.2.1] at st
    exact st

theorem byte_bit (x : Nat) : Value.int .u8 ((x % 2 : Nat) : Int) = byteV (if (x % 2 == 1) = true then 1 else 0) := by
  rw [← b01_mod]
  have h : x % 2 % 2 ^ 8 = x % 2 := Nat.mod_eq_of_lt (by have := Nat.mod_lt x (show 0 < 2 by omega); omega)
  simp only [byteV, UInt8.toNat_ofNat', h]
theorem bits08_ref {z n : Nat} {h0 : Heap} (hv : z ≤ 1099511627776) (hn : n ≤ 1048576) :
    Ret Try.prog 93 [.int .i64 (z : Int), .int .i64 (n : Int)] h0 fun w h' => St h0.size h0 h' [row 5 1 w ((b01 (codeBits z n)).map byteV)] := by
  refine ret_of_X Try.func93 rfl rfl fun w0 hw0 => ?_
  simp only [argE, Nat.zero_add, Nat.reduceAdd]
  have st := St.start h0
  refine X_seq ?_
  refine X_reg ?_
  refine XR_a (op_assign rfl) rfl rfl ?_
  refine XR_nil ?_
  refine X_seq ?_
  refine X_reg ?_
  refine XR_a (op_assign rfl) rfl rfl ?_
  refine XR_nil ?_
  refine X_seq ?_
  refine X_seq ?_
  refine X_reg ?_
  refine XR_a (op_assign rfl) rfl rfl ?_
  refine XR_nil ?_
  refine X_block ?_
  replace st := st.nilrow 5 1
  refine X_loop (fun s => n - s.1) (fun s => [(0, .int .i64 (z / 2 ^ s.1 : Nat)), (1, .int .i64 (n : Int)), (5, s.2), (6, .int .i64 (s.1 : Nat))])
    (fun (s : Nat × Value) hp => St h0.size h0 hp [row 5 1 s.2 ((b01 (codeBits z s.1)).map byteV)] ∧ s.1 ≤ n)
    (0, .slice none 0 0) (.cons (by rw [Nat.pow_zero, Nat.div_one]; rfl) (.cons rfl (.cons rfl (.cons rfl (.nil _))))) ⟨st, by simp⟩ ?_
  clear st
  rintro ⟨i, w⟩ hp ⟨st, hi⟩
  simp only at st hi ⊢
  refine X_seq ?_
  refine X_seq ?_
  refine X_reg ?_
  refine XR_a (op_move rfl) rfl rfl ?_
  refine XR_a (op_move rfl) rfl rfl ?_
  refine XR_a (op_lss rfl rfl) rfl rfl ?_
  refine XR_nil ?_
  refine X_if rfl (fun h => ?_) (fun h => ?_)
  · have hdl : z / 2 ^ i ≤ 1099511627776 := Nat.le_trans (Nat.div_le_self _ _) hv
    have hcc := codeBits_cons i z
    have hdd : z / 2 ^ (i + 1) = z / 2 ^ i / 2 := by rw [Nat.pow_succ, Nat.div_div_eq_div_mul]
    obtain ⟨y, hy⟩ : ∃ y, z / 2 ^ i = y := ⟨_, rfl⟩
    rw [hy] at hdl hcc hdd ⊢
    have hyb := byte_bit y
    have hcl := codeBits_length i z
    refine X_skip ?_
    refine X_seq ?_
    refine X_block ?_
    refine X_seq ?_
    refine X_reg ?_
    refine XR_a (op_move rfl) rfl rfl ?_
    first | refine XR_a (op_remN (n := 2) rfl rfl (by omega)) rfl rfl ?_ | refine XR_a (op_remI rfl rfl (by omega) (by omega)) rfl rfl ?_ | refine XR_a (op_rem rfl rfl (by omega)) rfl rfl ?_
    first | refine XR_a (op_convI rfl rfl (by simp only [inK]; omega)) rfl rfl ?_ | refine XR_a (op_convU rfl rfl rfl) rfl rfl ?_ | refine XR_a (op_conv rfl rfl) rfl rfl ?_
    refine XR_as (byteV (if (y % 2 == 1) = true then 1 else 0)) hyb ?_
    refine XR_wa (opl_lit1 rfl rfl rfl) rfl rfl rfl ?_
    rintro w2 hp hnew
    replace st := st.new hnew
    obtain ⟨A3, n3, c3, rfl, hlen3, _, _, hrd3⟩ := st.row 1 rfl
    refine XR_a (op_move rfl) rfl rfl ?_
    refine XR_wa (opl_append st 0 rfl (hrd3) (hlen3) (one_bytes _) (by simp [b01_length]; omega) rfl rfl rfl rfl rfl rfl rfl) rfl rfl rfl fun v hp st => ?_
    simp only [List.set_cons_zero, List.set_cons_succ] at st
    replace st := (st.perm (List.Perm.swap _ _ _)).tail
    have e : [byteV (if (y % 2 == 1) = true then 1 else 0)] ++ (b01 (codeBits z i)).map byteV = (b01 (codeBits z (i + 1))).map byteV := by rw [hcc]; rfl
    rw [e] at st
    refine XR_a (op_assign rfl) rfl rfl ?_
    refine XR_nil ?_
    refine X_reg ?_
    refine XR_a (op_move rfl) rfl rfl ?_
    first | refine XR_a (op_quoN (n := 2) rfl rfl (by omega) (by simp only [inK]; omega)) rfl rfl ?_ | refine XR_a (op_quoI rfl rfl (by omega) (by omega) (by simp only [inK]; omega)) rfl rfl ?_ | refine XR_a (op_quo rfl rfl (by omega)) rfl rfl ?_
    refine XR_a (op_assign rfl) rfl rfl ?_
    refine XR_nil ?_
    refine X_blk ?_
    refine X_reg ?_
    refine XR_a (op_move rfl) rfl rfl ?_
    first | refine XR_a (op_addN (n := 1) rfl rfl (by simp only [inK]; omega)) rfl rfl ?_ | refine XR_a (op_addI rfl rfl (by simp only [inK]; omega)) rfl rfl ?_ | refine XR_a (op_add rfl rfl) rfl rfl ?_
    refine XR_a (op_assign rfl) rfl rfl ?_
    refine XR_nil ?_
    exact X_again (i + 1, _) (.cons (by rw [hdd]; rfl) (.cons rfl (.cons rfl (.cons rfl (.nil _))))) ⟨st, by simp only; omega⟩ (by simp only; omega)
  · refine X_exit rfl ?_
    refine X_seq ?_
    refine X_reg ?_
    refine XR_a (op_move rfl) rfl rfl ?_
    refine XR_a (op_assign rfl) rfl rfl ?_
    refine XR_nil ?_
    refine X_ret (.cons (.tmp rfl) .nil) ?_
    obtain rfl : i = n := by omega
    exact st

theorem vals_212 : vals [2, 1, 2] = [2, 0, 3] := by decide
end Go.Bn
