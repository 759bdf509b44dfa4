/- The contracts of canon's functions on lengths, and of what they lean on. -/
import Derived.Test.YtdiglnhhmbhhjaaProg
import Derived.Test.YtdiglnhhmbhhjaaRng
import Derived.Test.YtdiglnhhmbhhjaaPCanon
set_option linter.unusedVariables false
set_option linter.unusedSimpArgs false
set_option maxHeartbeats 4000000
set_option maxRecDepth 20000
namespace Go.Bn
open Go Proofs

@[reducible] def iV (x : Int) : Value := .int .i64 x
@[reducible] def nV (x : Nat) : Value := .int .i64 (x : Int)
theorem one_iV (l : List Int) : ∀ u ∈ l.map iV, Value.one u = true := one_ints .i64 l
theorem one_nV (l : List Nat) : ∀ u ∈ l.map nV, Value.one u = true := by
  intro u hu; obtain ⟨x, _, rfl⟩ := List.mem_map.1 hu; rfl
theorem nV_iV (l : List Nat) : l.map nV = (l.map fun n : Nat => (n : Int)).map iV := by
  rw [List.map_map]; rfl

theorem indexFunc_spec {k n c : Nat} {A : Option Addr} {caps : Array Value} {li : List Int} {q : Int → Bool} {h0 : Heap} (hk : callOk Try.prog k = true) (hr : Rd h0 A (li.map iV)) (hl : li.length = n) (hn : n ≤ 17592186044416)
    (hq : ∀ x ∈ li, Ret Try.prog k (.int .i64 x :: caps.toList) h0 fun v h' => v = .bool (q x) ∧ h0 = h') :
    Ret Try.prog 130 [.slice A n c, .func (.func k) #[] caps] h0 fun v h' => ∃ r : Int, v = .int .i64 r ∧ (0 ≤ r ↔ li.any q = true) ∧ h0 = h' := by
  refine ret_of_X Try.func130 rfl rfl fun w0 hw0 => ?_
  simp only [argE, Nat.zero_add, Nat.reduceAdd]
  refine X_seq ?_
  refine X_reg ?_
  refine XR_a (op_assign rfl) rfl rfl ?_
  refine XR_nil ?_
  refine X_seq ?_
  refine X_seq ?_
  refine X_reg ?_
  refine XR_a (op_move rfl) rfl rfl ?_
  refine XR_a (op_len rfl rfl rfl) rfl rfl ?_
  refine XR_a (op_move rfl) rfl rfl ?_
  refine XR_nil ?_
  refine X_block ?_
  refine X_loop (fun i => n - i) (fun i => [(0, .slice A n c), (1, .func (.func k) #[] caps), (7, .int .i64 (n : Int)), (8, .int .i64 (i : Int))])
    (fun (i : Nat) hp => h0 = hp ∧ i ≤ n ∧ ∀ x ∈ li.take i, q x = false) 0 (.cons rfl (.cons rfl (.cons rfl (.cons rfl (.nil _))))) ⟨rfl, by omega, by simp⟩ ?_
  rintro i hp ⟨rfl, hi, hno⟩
  refine X_seq ?_
  refine X_reg ?_
  refine XR_a (op_lss rfl rfl) rfl rfl ?_
  refine XR_nil ?_
  refine X_seq ?_
  refine X_if rfl (fun h => ?_) (fun h => ?_)
  · have hin : i < li.length := by omega
    obtain ⟨gb, o, rfl, hc⟩ := hr.at_ (by rw [List.length_map]; omega)
    have hci := hc i (iV li[i]) (by simp [hin])
    refine X_skip ?_
    refine X_seq ?_
    refine X_block ?_
    refine X_seq ?_
    refine X_reg ?_
    refine XR_a (op_move rfl) rfl rfl ?_
    refine XR_a (op_assign rfl) rfl rfl ?_
    refine XR_nil ?_
    refine X_seq ?_
    refine X_reg ?_
    refine XR_a (op_move rfl) rfl rfl ?_
    refine XR_a (op_move rfl) rfl rfl ?_
    refine XR_a (op_move rfl) rfl rfl ?_
    first | refine XR_a (op_index1 rfl rfl rfl (by omega)) rfl rfl ?_ | refine XR_a (op_index rfl rfl rfl (by omega)) rfl rfl ?_
    refine XR_a (op_ld (hci) rfl rfl rfl) rfl rfl ?_
    refine XR_wa (opl_callV rfl (hq li[i] (List.getElem_mem hin)) rfl (hk)) rfl rfl rfl ?_
    rintro _ _ ⟨rfl, rfl⟩
    refine XR_nil ?_
    refine X_cond rfl (fun h => ?_) (fun h => ?_)
    · refine X_seq ?_
      refine X_reg ?_
      refine XR_a (op_move rfl) rfl rfl ?_
      refine XR_a (op_assign rfl) rfl rfl ?_
      refine XR_nil ?_
      refine X_ret (.cons (.tmp rfl) .nil) ?_
      refine ⟨i, rfl, ⟨fun _ => List.any_eq_true.2 ⟨_, List.getElem_mem hin, h⟩, fun _ => by omega⟩, rfl⟩
    · refine X_skip ?_
      refine X_blk ?_
      refine X_reg ?_
      first | refine XR_a (op_addN (n := 1) rfl rfl (by simp only [inK]; omega)) rfl rfl ?_ | refine XR_a (op_addI rfl rfl (by simp only [inK]; omega)) rfl rfl ?_ | refine XR_a (op_add rfl rfl) rfl rfl ?_
      refine XR_a (op_move rfl) rfl rfl ?_
      refine XR_nil ?_
      refine X_again (i + 1) (.cons rfl (.cons rfl (.cons rfl (.cons rfl (.nil _))))) ⟨rfl, by omega, fun x hx => ?_⟩ (by omega)
      rw [List.take_succ_eq_append_getElem hin] at hx
      rcases List.mem_append.1 hx with hx | hx
      · exact hno x hx
      · rw [List.mem_singleton.1 hx]; exact h
  · refine X_exit rfl ?_
    refine X_seq ?_
    refine X_reg ?_
    refine XR_a (op_assign rfl) rfl rfl ?_
    refine XR_nil ?_
    refine X_ret (.cons (.tmp rfl) .nil) ?_
    refine ⟨-1, rfl, ⟨fun hh => by omega, fun hh => ?_⟩, rfl⟩
    rw [List.take_of_length_le (by omega)] at hno
    obtain ⟨x, hx, hqx⟩ := List.any_eq_true.1 hh
    rw [hno x hx] at hqx; cases hqx

theorem containsFunc_spec {k n c : Nat} {A : Option Addr} {caps : Array Value} {li : List Int} {q : Int → Bool} {h0 : Heap} (hk : callOk Try.prog k = true) (hr : Rd h0 A (li.map iV)) (hl : li.length = n) (hn : n ≤ 17592186044416)
    (hq : ∀ x ∈ li, Ret Try.prog k (.int .i64 x :: caps.toList) h0 fun v h' => v = .bool (q x) ∧ h0 = h') :
    Ret Try.prog 106 [.slice A n c, .func (.func k) #[] caps] h0 fun v h' => v = .bool (li.any q) ∧ h0 = h' := by
  refine ret_of_X Try.func106 rfl rfl fun w0 hw0 => ?_
  simp only [argE, Nat.zero_add, Nat.reduceAdd]
  refine X_seq ?_
  refine X_reg ?_
  refine XR_a (op_assign rfl) rfl rfl ?_
  refine XR_nil ?_
  refine X_seq ?_
  refine X_reg ?_
  refine XR_a (op_move rfl) rfl rfl ?_
  refine XR_a (op_move rfl) rfl rfl ?_
  refine XR_wa (opl_call (indexFunc_spec hk hr hl hn hq) rfl (by kernel_rfl)) rfl rfl rfl ?_
  rintro _ _ ⟨r, rfl, hr2, rfl⟩
  refine XR_a (op_geq rfl rfl) rfl rfl ?_
  refine XR_a (op_assign rfl) rfl rfl ?_
  refine XR_nil ?_
  refine X_ret (.cons (.tmp rfl) .nil) ?_
  refine ⟨congrArg Value.bool ?_, rfl⟩
  rw [Bool.eq_iff_iff, decide_eq_true_iff]; exact hr2

theorem right1_canon (x : Int) (h0 : Heap) : Ret Try.prog 136 [.int .i64 x] h0 fun v h' => v = .bool (decide (x < 0 ∨ 15 < x)) ∧ h0 = h' := by
  refine ret_of_X Try.func136 rfl rfl fun w0 hw0 => ?_
  simp only [argE, Nat.zero_add, Nat.reduceAdd]
  refine X_seq ?_
  refine X_reg ?_
  refine XR_a (op_assign rfl) rfl rfl ?_
  refine XR_nil ?_
  refine X_seq ?_
  refine X_reg ?_
  refine XR_a (op_move rfl) rfl rfl ?_
  refine XR_a (op_lss rfl rfl) rfl rfl ?_
  refine XR_a (op_move rfl) rfl rfl ?_
  refine XR_if 5 rfl (fun h => ?_) (fun h => ?_)
  · refine XR_no rfl rfl ?_
    refine XR_no rfl rfl ?_
    refine XR_a (op_pick_t rfl rfl) rfl rfl ?_
    refine XR_a (op_assign rfl) rfl rfl ?_
    refine XR_nil ?_
    refine X_ret (.cons (.tmp rfl) .nil) ?_
    first
      | exact ⟨congrArg Value.bool (decide_eq_true (by omega)).symm, rfl⟩
      | exact ⟨congrArg Value.bool (decide_eq_decide.2 ⟨fun hh => by omega, fun hh => by omega⟩), rfl⟩
  · refine XR_a (op_move rfl) rfl rfl ?_
    refine XR_a (op_gtr rfl rfl) rfl rfl ?_
    refine XR_a (op_pick_f rfl rfl) rfl rfl ?_
    refine XR_a (op_assign rfl) rfl rfl ?_
    refine XR_nil ?_
    refine X_ret (.cons (.tmp rfl) .nil) ?_
    first
      | exact ⟨congrArg Value.bool (decide_eq_true (by omega)).symm, rfl⟩
      | exact ⟨congrArg Value.bool (decide_eq_decide.2 ⟨fun hh => by omega, fun hh => by omega⟩), rfl⟩

theorem right1_weigh {p : Nat} {most : Int} (x : Int) {h0 : Heap} (hc : cellH h0 ⟨p, 0, none⟩ = some (.int .i64 most)) : Ret Try.prog 107 [.int .i64 x, .pointer (some ⟨p, 0, none⟩)] h0 fun v h' => v = .bool (decide (x < 0 ∨ most < x)) ∧ h0 = h' := by
  refine ret_of_X Try.func107 rfl rfl fun w0 hw0 => ?_
  simp only [argE, Nat.zero_add, Nat.reduceAdd]
  refine X_seq ?_
  refine X_reg ?_
  refine XR_a (op_assign rfl) rfl rfl ?_
  refine XR_nil ?_
  refine X_seq ?_
  refine X_reg ?_
  refine XR_a (op_move rfl) rfl rfl ?_
  refine XR_a (op_lss rfl rfl) rfl rfl ?_
  refine XR_a (op_move rfl) rfl rfl ?_
  refine XR_if 6 rfl (fun h => ?_) (fun h => ?_)
  · refine XR_no rfl rfl ?_
    refine XR_no rfl rfl ?_
    refine XR_no rfl rfl ?_
    refine XR_a (op_pick_t rfl rfl) rfl rfl ?_
    refine XR_a (op_assign rfl) rfl rfl ?_
    refine XR_nil ?_
    refine X_ret (.cons (.tmp rfl) .nil) ?_
    first
      | exact ⟨congrArg Value.bool (decide_eq_true (by omega)).symm, rfl⟩
      | exact ⟨congrArg Value.bool (decide_eq_decide.2 ⟨fun hh => by omega, fun hh => by omega⟩), rfl⟩
  · refine XR_a (op_move rfl) rfl rfl ?_
    refine XR_a (op_ld (hc) rfl rfl rfl) rfl rfl ?_
    refine XR_a (op_gtr rfl rfl) rfl rfl ?_
    refine XR_a (op_pick_f rfl rfl) rfl rfl ?_
    refine XR_a (op_assign rfl) rfl rfl ?_
    refine XR_nil ?_
    refine X_ret (.cons (.tmp rfl) .nil) ?_
    first
      | exact ⟨congrArg Value.bool (decide_eq_true (by omega)).symm, rfl⟩
      | exact ⟨congrArg Value.bool (decide_eq_decide.2 ⟨fun hh => by omega, fun hh => by omega⟩), rfl⟩

def boundedB (most : Int) (li : List Int) : Prop := li.length ≤ 320 ∧ ∀ x ∈ li, 0 ≤ x ∧ x ≤ most
instance (most : Int) (li : List Int) : Decidable (boundedB most li) := by unfold boundedB; infer_instance
theorem any_out (most : Int) (li : List Int) : (!li.any fun x => decide (x < 0 ∨ most < x)) = decide (∀ x ∈ li, 0 ≤ x ∧ x ≤ most) := by
  rw [Bool.eq_iff_iff]
  simp only [Bool.not_eq_true', List.any_eq_false, decide_eq_true_iff]
  exact ⟨fun h x hx => by have := h x hx; omega, fun h x hx => by have := h x hx; omega⟩

theorem wright_spec {n c : Nat} {A : Option Addr} {li : List Int} (most : Int) {h0 : Heap} (hr : Rd h0 A (li.map iV)) (hl : li.length = n) (hn : n ≤ 17592186044416) :
    Ret Try.prog 69 [.slice A n c, .int .i64 most] h0 fun v h' => v = .bool (decide (boundedB most li)) ∧ Ext h0 h' := by
  refine ret_of_X Try.func69 rfl rfl fun w0 hw0 => ?_
  simp only [argE, Nat.zero_add, Nat.reduceAdd]
  have st := St.start h0
  refine X_seq ?_
  refine X_reg ?_
  refine XR_wa (opl_bx rfl rfl) rfl rfl rfl ?_
  rintro _ hp ⟨p, rfl, hnew⟩
  have st := st.new hnew
  refine XR_a (op_assign rfl) rfl rfl ?_
  refine XR_nil ?_
  refine X_seq ?_
  refine X_reg ?_
  refine XR_a (op_move rfl) rfl rfl ?_
  refine XR_a (op_len rfl rfl rfl) rfl rfl ?_
  refine XR_a (op_leq rfl rfl) rfl rfl ?_
  refine XR_a (op_move rfl) rfl rfl ?_
  refine XR_if 8 rfl (fun h => ?_) (fun h => ?_)
  · refine XR_a (op_move rfl) rfl rfl ?_
    refine XR_a (op_mkFunc rfl) rfl rfl ?_
    refine XR_wa (opl_call (containsFunc_spec (q := fun x => decide (x < 0 ∨ most < x)) (by kernel_rfl) (hr.ext st.low) hl hn (fun x _ => right1_weigh x (st.cell 0 (i := 0) rfl rfl))) rfl (by kernel_rfl)) rfl rfl rfl ?_
    rintro _ _ ⟨rfl, rfl⟩
    refine XR_a (op_not rfl) rfl rfl ?_
    rw [any_out]
    refine XR_a (op_pick_t rfl rfl) rfl rfl ?_
    refine XR_a (op_assign rfl) rfl rfl ?_
    refine XR_nil ?_
    refine X_ret (.cons (.tmp rfl) .nil) ?_
    exact ⟨congrArg Value.bool (decide_eq_decide.2 ⟨fun hh => ⟨by omega, hh⟩, fun hh => hh.2⟩), st.low⟩
  · refine XR_no rfl rfl ?_
    refine XR_no rfl rfl ?_
    refine XR_no rfl rfl ?_
    refine XR_no rfl rfl ?_
    refine XR_a (op_pick_f rfl rfl) rfl rfl ?_
    refine XR_a (op_assign rfl) rfl rfl ?_
    refine XR_nil ?_
    refine X_ret (.cons (.tmp rfl) .nil) ?_
    exact ⟨congrArg Value.bool (decide_eq_false (fun hh => by have := hh.1; omega)).symm, st.low⟩

theorem toNat_map {li : List Int} (h : ∀ x ∈ li, 0 ≤ x) : (li.map Int.toNat).map (fun n : Nat => (n : Int)) = li := by
  rw [List.map_map]
  conv => rhs; rw [← List.map_id li]
  refine List.map_congr_left fun x hx => ?_
  have := h x hx
  simp only [Function.comp, id]; omega

theorem wfull_spec {n c : Nat} {A : Option Addr} {li : List Int} {h0 : Heap} (hr : Rd h0 A (li.map iV)) (hl : li.length = n) (hb : boundedB 15 li) :
    Ret Try.prog 36 [.slice A n c] h0 fun v h' => v = .bool (decide (kraft (li.map Int.toNat) = 32768)) ∧ Ext h0 h' := by
  have hn : n ≤ 320 := by rw [← hl]; exact hb.1
  refine ret_of_X Try.func36 rfl rfl fun w0 hw0 => ?_
  simp only [argE, Nat.zero_add, Nat.reduceAdd]
  refine X_seq ?_
  refine X_reg ?_
  refine XR_a (op_assign rfl) rfl rfl ?_
  refine XR_nil ?_
  refine X_seq ?_
  refine X_seq ?_
  refine X_reg ?_
  refine XR_a (op_move rfl) rfl rfl ?_
  refine XR_wa (opl_call (wright_spec 15 hr hl (by omega)) rfl (by kernel_rfl)) rfl rfl rfl ?_
  rintro _ hp ⟨rfl, hx⟩
  rw [decide_eq_true hb]
  first | refine XR_a (op_notd rfl) rfl rfl ?_ | refine XR_a (op_not rfl) rfl rfl ?_
  refine XR_nil ?_
  refine X_else rfl ?_
  refine X_skip ?_
  refine X_seq ?_
  refine X_reg ?_
  refine XR_a (op_assign rfl) rfl rfl ?_
  refine XR_nil ?_
  refine X_seq ?_
  refine X_seq ?_
  refine X_reg ?_
  refine XR_a (op_move rfl) rfl rfl ?_
  refine XR_a (op_len rfl rfl rfl) rfl rfl ?_
  refine XR_a (op_move rfl) rfl rfl ?_
  refine XR_nil ?_
  refine X_block ?_
  have st := (St.start h0).ext hx
  refine X_loop (fun i => n - i) (fun i => [(9, .slice A n c), (10, .int .i64 (n : Int)), (11, .int .i64 (i : Int)), (3, .int .i64 ((kraft ((li.map Int.toNat).take i) : Nat) : Int))])
    (fun (i : Nat) hp => St h0.size h0 hp [] ∧ i ≤ n ∧ kraft ((li.map Int.toNat).take i) ≤ 16384 * i) 0 (.cons rfl (.cons rfl (.cons rfl (.cons rfl (.nil _))))) ⟨st, by omega, by simp [kraft]⟩ ?_
  clear st hx
  rintro i hp ⟨st, hi, hk⟩
  refine X_seq ?_
  refine X_reg ?_
  refine XR_a (op_lss rfl rfl) rfl rfl ?_
  refine XR_nil ?_
  refine X_seq ?_
  refine X_if rfl (fun h => ?_) (fun h => ?_)
  · have hin : i < li.length := by omega
    obtain ⟨gb, o, rfl, hc⟩ := (hr.ext st.low).at_ (by rw [List.length_map]; omega)
    have hci := hc i (iV li[i]) (by simp [hin])
    have hbi := hb.2 li[i] (List.getElem_mem hin)
    have htk : kraft ((li.map Int.toNat).take (i + 1)) = kraft ((li.map Int.toNat).take i) + unitK (li[i]).toNat := by
      rw [List.take_succ_eq_append_getElem (by simpa using hin)]; simp [kraft]
    obtain ⟨x, hx⟩ : ∃ x : Nat, li[i] = x := ⟨(li[i]).toNat, by omega⟩
    rw [hx] at hci hbi htk
    rw [Int.toNat_natCast] at htk
    have hu : unitK x ≤ 16384 := by
      unfold unitK
      split
      · omega
      · exact Nat.le_trans (Nat.pow_le_pow_right (by omega) (show 15 - x ≤ 14 by omega)) (by decide)
    refine X_skip ?_
    refine X_seq ?_
    refine X_block ?_
    refine X_seq ?_
    refine X_reg ?_
    first | refine XR_a (op_index1 rfl rfl rfl (by omega)) rfl rfl ?_ | refine XR_a (op_index rfl rfl rfl (by omega)) rfl rfl ?_
    refine XR_a (op_ld (hci) rfl rfl rfl) rfl rfl ?_
    refine XR_a (op_assign rfl) rfl rfl ?_
    refine XR_nil ?_
    refine X_seq ?_
    refine X_reg ?_
    refine XR_a (op_move rfl) rfl rfl ?_
    refine XR_a (op_gtr rfl rfl) rfl rfl ?_
    refine XR_nil ?_
    refine X_if rfl (fun h => ?_) (fun h => ?_)
    · have hu1 : unitK x = 2 ^ (15 - x) := by unfold unitK; rw [if_neg (by omega)]
      have hp1 : 1 ≤ 2 ^ (15 - x) := Nat.pow_pos (by omega)
      refine X_reg ?_
      refine XR_a (op_move rfl) rfl rfl ?_
      refine XR_a (op_move rfl) rfl rfl ?_
      refine XR_a (op_subN (m := 15) (n := x) rfl rfl (by omega) (by simp only [inK]; omega)) rfl rfl ?_
      refine XR_a (op_shlC (m := 1) (15 - x) rfl rfl (by simp only [IntKind.bits]; omega) (by rw [Nat.one_mul, ← hu1]; simp only [inK]; omega)) rfl rfl ?_
      rw [Nat.one_mul, ← hu1]
      first | refine XR_a (op_addN rfl rfl (by simp only [inK]; omega)) rfl rfl ?_ | refine XR_a (op_addI rfl rfl (by simp only [inK]; omega)) rfl rfl ?_ | refine XR_a (op_add rfl rfl) rfl rfl ?_
      refine XR_a (op_assign rfl) rfl rfl ?_
      refine XR_nil ?_
      refine X_blk ?_
      refine X_reg ?_
      first | refine XR_a (op_addN (n := 1) rfl rfl (by simp only [inK]; omega)) rfl rfl ?_ | refine XR_a (op_addI rfl rfl (by simp only [inK]; omega)) rfl rfl ?_ | refine XR_a (op_add rfl rfl) rfl rfl ?_
      refine XR_a (op_move rfl) rfl rfl ?_
      refine XR_nil ?_
      exact X_again (i + 1) (.cons rfl (.cons rfl (.cons rfl (.cons (by rw [htk]; rfl) (.nil _))))) ⟨st, by omega, by rw [htk]; omega⟩ (by omega)
    · have hu0 : unitK x = 0 := by unfold unitK; rw [if_pos (by omega)]
      refine X_skip ?_
      refine X_blk ?_
      refine X_reg ?_
      first | refine XR_a (op_addN (n := 1) rfl rfl (by simp only [inK]; omega)) rfl rfl ?_ | refine XR_a (op_addI rfl rfl (by simp only [inK]; omega)) rfl rfl ?_ | refine XR_a (op_add rfl rfl) rfl rfl ?_
      refine XR_a (op_move rfl) rfl rfl ?_
      refine XR_nil ?_
      exact X_again (i + 1) (.cons rfl (.cons rfl (.cons rfl (.cons (by rw [htk, hu0]; rfl) (.nil _))))) ⟨st, by omega, by rw [htk]; omega⟩ (by omega)
  · rw [List.take_of_length_le (by rw [List.length_map]; omega)]
    refine X_exit rfl ?_
    refine X_seq ?_
    refine X_reg ?_
    refine XR_a (op_move rfl) rfl rfl ?_
    refine XR_a (op_eql rfl rfl) rfl rfl ?_
    refine XR_a (op_assign rfl) rfl rfl ?_
    refine XR_nil ?_
    refine X_ret (.cons (.tmp rfl) .nil) ?_
    exact ⟨congrArg Value.bool (decide_eq_decide.2 ⟨fun hh => by omega, fun hh => by omega⟩), st.low⟩

theorem single_spec {n c : Nat} {A : Option Addr} {li : List Int} {h0 : Heap} (hr : Rd h0 A (li.map iV)) (hl : li.length = n) (hb : boundedB 15 li) :
    Ret Try.prog 137 [.slice A n c] h0 fun v h' => v = .bool (decide ((li.map Int.toNat).sum = 1)) ∧ h0 = h' := by
  have hn : n ≤ 320 := by rw [← hl]; exact hb.1
  refine ret_of_X Try.func137 rfl rfl fun w0 hw0 => ?_
  simp only [argE, Nat.zero_add, Nat.reduceAdd]
  refine X_seq ?_
  refine X_reg ?_
  refine XR_a (op_assign rfl) rfl rfl ?_
  refine XR_nil ?_
  refine X_seq ?_
  refine X_reg ?_
  refine XR_a (op_assign rfl) rfl rfl ?_
  refine XR_nil ?_
  refine X_seq ?_
  refine X_seq ?_
  refine X_reg ?_
  refine XR_a (op_move rfl) rfl rfl ?_
  refine XR_a (op_len rfl rfl rfl) rfl rfl ?_
  refine XR_a (op_move rfl) rfl rfl ?_
  refine XR_nil ?_
  refine X_block ?_
  refine X_loop (fun i => n - i) (fun i => [(6, .slice A n c), (7, .int .i64 (n : Int)), (8, .int .i64 (i : Int)), (3, .int .i64 ((((li.map Int.toNat).take i).sum : Nat) : Int))])
    (fun (i : Nat) hp => h0 = hp ∧ i ≤ n ∧ ((li.map Int.toNat).take i).sum ≤ 15 * i) 0 (.cons rfl (.cons rfl (.cons rfl (.cons rfl (.nil _))))) ⟨rfl, by omega, by simp⟩ ?_
  rintro i hp ⟨rfl, hi, hk⟩
  refine X_seq ?_
  refine X_reg ?_
  refine XR_a (op_lss rfl rfl) rfl rfl ?_
  refine XR_nil ?_
  refine X_seq ?_
  refine X_if rfl (fun h => ?_) (fun h => ?_)
  · have hin : i < li.length := by omega
    obtain ⟨gb, o, rfl, hc⟩ := hr.at_ (by rw [List.length_map]; omega)
    have hci := hc i (iV li[i]) (by simp [hin])
    have hbi := hb.2 li[i] (List.getElem_mem hin)
    have htk : ((li.map Int.toNat).take (i + 1)).sum = ((li.map Int.toNat).take i).sum + (li[i]).toNat := by
      rw [List.take_succ_eq_append_getElem (by simpa using hin)]; simp
    obtain ⟨x, hx⟩ : ∃ x : Nat, li[i] = x := ⟨(li[i]).toNat, by omega⟩
    rw [hx] at hci hbi htk
    rw [Int.toNat_natCast] at htk
    refine X_skip ?_
    refine X_seq ?_
    refine X_block ?_
    refine X_seq ?_
    refine X_reg ?_
    first | refine XR_a (op_index1 rfl rfl rfl (by omega)) rfl rfl ?_ | refine XR_a (op_index rfl rfl rfl (by omega)) rfl rfl ?_
    refine XR_a (op_ld (hci) rfl rfl rfl) rfl rfl ?_
    refine XR_a (op_assign rfl) rfl rfl ?_
    refine XR_nil ?_
    refine X_reg ?_
    refine XR_a (op_move rfl) rfl rfl ?_
    refine XR_a (op_move rfl) rfl rfl ?_
    first | refine XR_a (op_addN rfl rfl (by simp only [inK]; omega)) rfl rfl ?_ | refine XR_a (op_addI rfl rfl (by simp only [inK]; omega)) rfl rfl ?_ | refine XR_a (op_add rfl rfl) rfl rfl ?_
    refine XR_a (op_assign rfl) rfl rfl ?_
    refine XR_nil ?_
    refine X_blk ?_
    refine X_reg ?_
    first | refine XR_a (op_addN (n := 1) rfl rfl (by simp only [inK]; omega)) rfl rfl ?_ | refine XR_a (op_addI rfl rfl (by simp only [inK]; omega)) rfl rfl ?_ | refine XR_a (op_add rfl rfl) rfl rfl ?_
    refine XR_a (op_move rfl) rfl rfl ?_
    refine XR_nil ?_
    exact X_again (i + 1) (.cons rfl (.cons rfl (.cons rfl (.cons (by rw [htk]; rfl) (.nil _))))) ⟨rfl, by omega, by rw [htk]; omega⟩ (by omega)
  · rw [List.take_of_length_le (by rw [List.length_map]; omega)]
    refine X_exit rfl ?_
    refine X_seq ?_
    refine X_reg ?_
    refine XR_a (op_move rfl) rfl rfl ?_
    refine XR_a (op_eql rfl rfl) rfl rfl ?_
    refine XR_a (op_assign rfl) rfl rfl ?_
    refine XR_nil ?_
    refine X_ret (.cons (.tmp rfl) .nil) ?_
    exact ⟨congrArg Value.bool (decide_eq_decide.2 ⟨fun hh => by omega, fun hh => by omega⟩), rfl⟩

/-- Whether numbers may be a code's lengths. -/
def rightC (li : List Int) : Prop := 1 ≤ li.length ∧ boundedB 15 li ∧ (kraft (li.map Int.toNat) = 32768 ∨ (li.map Int.toNat).sum = 1)
instance (li : List Int) : Decidable (rightC li) := by unfold rightC; infer_instance
theorem rightC.ok {li : List Int} (h : rightC li) : lensOK (li.map Int.toNat) := by
  refine ⟨by rw [List.length_map]; exact h.1, by rw [List.length_map]; exact h.2.1.1, fun x hx => ?_, h.2.2⟩
  obtain ⟨y, hy, rfl⟩ := List.mem_map.1 hx
  have := h.2.1.2 y hy; omega

theorem cright_spec {n c : Nat} {A : Option Addr} {li : List Int} {h0 : Heap} (hr : Rd h0 A (li.map iV)) (hl : li.length = n) (hn : n ≤ 17592186044416) :
    Ret Try.prog 123 [.slice A n c] h0 fun v h' => v = .bool (decide (rightC li)) ∧ Ext h0 h' := by
  refine ret_of_X Try.func123 rfl rfl fun w0 hw0 => ?_
  simp only [argE, Nat.zero_add, Nat.reduceAdd]
  refine X_seq ?_
  refine X_reg ?_
  refine XR_a (op_assign rfl) rfl rfl ?_
  refine XR_nil ?_
  refine X_seq ?_
  refine X_seq ?_
  refine X_reg ?_
  refine XR_a (op_move rfl) rfl rfl ?_
  refine XR_a (op_len rfl rfl rfl) rfl rfl ?_
  refine XR_a (op_lss rfl rfl) rfl rfl ?_
  refine XR_a (op_move rfl) rfl rfl ?_
  refine XR_if 6 rfl (fun h => ?_) (fun h => ?_)
  · refine XR_no rfl rfl ?_
    refine XR_no rfl rfl ?_
    refine XR_no rfl rfl ?_
    refine XR_a (op_pick_t rfl rfl) rfl rfl ?_
    refine XR_a (op_move rfl) rfl rfl ?_
    refine XR_no rfl rfl ?_
    refine XR_no rfl rfl ?_
    refine XR_a (op_pick_t rfl rfl) rfl rfl ?_
    refine XR_nil ?_
    refine X_then rfl ?_
    refine X_seq ?_
    refine X_reg ?_
    refine XR_a (op_assign rfl) rfl rfl ?_
    refine XR_nil ?_
    refine X_ret (.cons (.tmp rfl) .nil) ?_
    exact ⟨congrArg Value.bool (decide_eq_false (fun hh => by have := hh.1; omega)).symm, Ext.refl _⟩
  · refine XR_a (op_move rfl) rfl rfl ?_
    refine XR_a (op_len rfl rfl rfl) rfl rfl ?_
    refine XR_a (op_gtr rfl rfl) rfl rfl ?_
    refine XR_a (op_pick_f rfl rfl) rfl rfl ?_
    refine XR_a (op_move rfl) rfl rfl ?_
    refine XR_if 11 rfl (fun h => ?_) (fun h => ?_)
    · refine XR_no rfl rfl ?_
      refine XR_no rfl rfl ?_
      refine XR_a (op_pick_t rfl rfl) rfl rfl ?_
      refine XR_nil ?_
      refine X_then rfl ?_
      refine X_seq ?_
      refine X_reg ?_
      refine XR_a (op_assign rfl) rfl rfl ?_
      refine XR_nil ?_
      refine X_ret (.cons (.tmp rfl) .nil) ?_
      exact ⟨congrArg Value.bool (decide_eq_false (fun hh => by have := hh.2.1.1; omega)).symm, Ext.refl _⟩
    · refine XR_a (op_move rfl) rfl rfl ?_
      refine XR_wa (opl_call (containsFunc_spec (q := fun x => decide (x < 0 ∨ 15 < x)) (caps := #[]) (by kernel_rfl) hr hl hn (fun x _ => right1_canon x _)) rfl (by kernel_rfl)) rfl rfl rfl ?_
      rintro _ _ ⟨rfl, rfl⟩
      have hany := any_out 15 li
      refine XR_a (op_pick_f rfl rfl) rfl rfl ?_
      refine XR_nil ?_
      refine X_cond rfl (fun h => ?_) (fun h => ?_)
      · refine X_seq ?_
        refine X_reg ?_
        refine XR_a (op_assign rfl) rfl rfl ?_
        refine XR_nil ?_
        refine X_ret (.cons (.tmp rfl) .nil) ?_
        refine ⟨congrArg Value.bool (decide_eq_false (fun hh => ?_)).symm, Ext.refl _⟩
        rw [h] at hany
        have h9 := hh.2.1.2
        rw [decide_eq_true h9] at hany; cases hany
      · have hb : boundedB 15 li := by
          rw [h] at hany
          exact ⟨by omega, of_decide_eq_true hany.symm⟩
        refine X_skip ?_
        refine X_seq ?_
        refine X_reg ?_
        refine XR_a (op_move rfl) rfl rfl ?_
        refine XR_wa (opl_call (wfull_spec hr hl hb) rfl (by kernel_rfl)) rfl rfl rfl ?_
        rintro _ hp ⟨rfl, hx⟩
        refine XR_a (op_move rfl) rfl rfl ?_
        refine XR_if 17 rfl (fun h => ?_) (fun h => ?_)
        · refine XR_no rfl rfl ?_
          refine XR_no rfl rfl ?_
          refine XR_a (op_pick_t rfl rfl) rfl rfl ?_
          refine XR_a (op_assign rfl) rfl rfl ?_
          refine XR_nil ?_
          refine X_ret (.cons (.tmp rfl) .nil) ?_
          exact ⟨congrArg Value.bool (decide_eq_true ⟨by omega, hb, .inl h⟩).symm, hx⟩
        · refine XR_a (op_move rfl) rfl rfl ?_
          refine XR_wa (opl_call (single_spec (hr.ext hx) hl hb) rfl (by kernel_rfl)) rfl rfl rfl ?_
          rintro _ _ ⟨rfl, rfl⟩
          refine XR_a (op_pick_f rfl rfl) rfl rfl ?_
          refine XR_a (op_assign rfl) rfl rfl ?_
          refine XR_nil ?_
          refine X_ret (.cons (.tmp rfl) .nil) ?_
          exact ⟨congrArg Value.bool (decide_eq_decide.2 ⟨fun hh => ⟨by omega, hb, .inr hh⟩, fun hh => hh.2.2.resolve_left h⟩), hx⟩
end Go.Bn
