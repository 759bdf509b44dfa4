/- The laws of weigh's theorem, and costs. -/
import Derived.Test.YtdiglnhhmbhhjaaLaw07
import Derived.Test.YtdiglnhhmbhhjaaPBest
set_option linter.unusedVariables false
set_option linter.unusedSimpArgs false
set_option maxHeartbeats 4000000
set_option maxRecDepth 20000
namespace Go.Bn
open Go Proofs

/-- Whether any lengths leave nothing over. -/
def fullI (li : List Int) : Prop := boundedB 15 li ∧ kraft (li.map Int.toNat) = 32768
instance (li : List Int) : Decidable (fullI li) := by unfold fullI; infer_instance
theorem wfull_no {n c : Nat} {A : Option Addr} {li : List Int} {h0 : Heap} (hr : Rd h0 A (li.map iV)) (hl : li.length = n) (hn : n ≤ 17592186044416) (hb : ¬ boundedB 15 li) :
    Ret Try.prog 36 [.slice A n c] h0 fun v h' => v = .bool false ∧ Ext h0 h' := by
  refine ret_of_X Try.func36 rfl rfl fun w0 hw0 => ?_
  simp only [argE, Nat.zero_add, Nat.reduceAdd]
  refine X_seq ?_
  refine X_reg ?_
  refine XR_a (op_assign rfl) rfl rfl ?_
  refine XR_nil ?_
  refine X_seq ?_
  refine X_seq ?_
  refine X_reg ?_
  refine XR_a (op_move rfl) rfl rfl ?_
  refine XR_wa (opl_call (wright_spec 15 hr hl hn) rfl (by kernel_rfl)) rfl rfl rfl ?_
  rintro _ hp ⟨rfl, hx⟩
  rw [decide_eq_false hb]
  first | refine XR_a (op_notd rfl) rfl rfl ?_ | refine XR_a (op_not rfl) rfl rfl ?_
  refine XR_nil ?_
  refine X_then rfl ?_
  refine X_seq ?_
  refine X_reg ?_
  refine XR_a (op_assign rfl) rfl rfl ?_
  refine XR_nil ?_
  refine X_ret (.cons (.tmp rfl) .nil) ?_
  exact ⟨rfl, hx⟩
theorem wfull_any {n c : Nat} {A : Option Addr} {li : List Int} {h0 : Heap} (hr : Rd h0 A (li.map iV)) (hl : li.length = n) (hn : n ≤ 17592186044416) :
    Ret Try.prog 36 [.slice A n c] h0 fun v h' => v = .bool (decide (fullI li)) ∧ Ext h0 h' := by
  by_cases hb : boundedB 15 li
  · refine (wfull_spec hr hl hb).mono fun v h' h => ⟨?_, h.2⟩
    rw [h.1]
    exact congrArg Value.bool (decide_eq_decide.2 ⟨fun k => ⟨hb, k⟩, fun k => k.2⟩)
  · refine (wfull_no hr hl hn hb).mono fun v h' h => ⟨?_, h.2⟩
    rw [h.1]
    exact congrArg Value.bool (decide_eq_false fun k => hb k.1).symm

theorem mem_syms_iff {ws : List Nat} {s : Nat} (hs : s < ws.length) : s ∈ syms ws ↔ 0 < wkey ws s := by rw [mem_syms]; exact ⟨fun h => h.2, fun h => ⟨hs, h⟩⟩
theorem lenW_iff {ws : List Nat} (h2 : ws.length ≤ 16000) {s : Nat} (hs : s < ws.length) : 0 < lenW ws s ↔ 0 < wkey ws s := by
  rw [← mem_syms_iff hs]
  constructor
  · intro h
    refine Classical.byContradiction fun h3 => ?_
    have := lenW_none h2 h3; omega
  · intro h; exact lenW_pos h2 h
theorem kraft_zeros (n : Nat) : kraft (List.replicate n 0) = 0 := by
  refine kraft_zero _ ?_
  simp
theorem full_iff {ws : List Nat} (h2 : ws.length ≤ 16000) : kraft (lensW ws) = 32768 ↔ 1 < (syms ws).length := by
  constructor
  · intro h
    refine Classical.byContradiction fun h3 => ?_
    rcases Nat.eq_zero_or_pos (syms ws).length with h0 | h0
    · rw [lensW_zero h0, kraft_zeros] at h; omega
    · have := kraft_one _ (lensW_one (ws := ws) (by omega) h2); omega
  · intro h; exact lensW_kraft h h2

theorem weighFull_ret {n c : Nat} {A : Option Addr} {li : List Int} {h0 : Heap} (hr : Rd h0 A (li.map iV)) (hl : li.length = n) (hn : n ≤ 17592186044416) :
    Ret Try.prog 9 [.slice A n c] h0 fun v h' => v = .bool true ∧ Ext h0 h' := by
  refine ret_of_X Try.func9 rfl rfl fun w0 hw0 => ?_
  simp only [argE, Nat.zero_add, Nat.reduceAdd]
  refine X_seq ?_
  refine X_reg ?_
  refine XR_a (op_assign rfl) rfl rfl ?_
  by_cases hR : boundedB 1073741824 li
  · refine XR_nil ?_
    refine X_seq ?_
    refine X_reg ?_
    refine XR_a (op_move rfl) rfl rfl ?_
    refine XR_wa (opl_call (lengths_spec hr hl hn) rfl (by kernel_rfl)) rfl rfl rfl ?_
    rintro _ hp1 ⟨w, rfl, st⟩
    have he0 := errW_zero.2 hR
    have hlens : lensI li = lensW (li.map Int.toNat) := by unfold lensI; rw [if_pos he0]
    rw [hlens] at st
    rw [he0]
    have hn320 := hR.1
    have hr2 : Rd h0 A ((li.map Int.toNat).map nV) := by rw [← bounded_nat hR]; exact hr
    have hlw : (li.map Int.toNat).length = n := by rw [List.length_map]; exact hl
    have hwb := wkey_bd hR
    obtain ⟨ws, hws⟩ : ∃ ws, li.map Int.toNat = ws := ⟨_, rfl⟩
    rw [hws] at hr2 hlw hwb st
    obtain ⟨A3, n3, c3, rfl, hl3, _, _, hrd3⟩ := st.row 0 rfl
    rw [List.length_map, lensW_length, Nat.mul_one] at hl3
    obtain rfl : n = n3 := by omega
    have hw0 := hr2.ext st.low
    refine XR_a (op_move rfl) rfl rfl ?_
    refine XR_a (op_extract rfl rfl) rfl rfl ?_
    refine XR_a (op_extract rfl rfl) rfl rfl ?_
    refine XR_a (op_assign rfl) rfl rfl ?_
    refine XR_a (op_assign rfl) rfl rfl ?_
    refine XR_nil ?_
    refine X_seq ?_
    refine X_seq ?_
    refine X_reg ?_
    refine XR_a (op_move rfl) rfl rfl ?_
    refine XR_a (op_neq rfl rfl) rfl rfl ?_
    refine XR_a (op_move rfl) rfl rfl ?_
    refine XR_a (op_move rfl) rfl rfl ?_
    refine XR_a (op_len rfl rfl rfl) rfl rfl ?_
    refine XR_a (op_gtr rfl rfl) rfl rfl ?_
    refine XR_a (op_pick_f rfl rfl) rfl rfl ?_
    refine XR_nil ?_
    refine X_if rfl (fun h => ?_) (fun h => ?_)
    · exact absurd h (by omega)
    · refine X_skip ?_
      refine X_seq ?_
      refine X_seq ?_
      refine X_reg ?_
      refine XR_a (op_move rfl) rfl rfl ?_
      refine XR_a (op_len rfl rfl rfl) rfl rfl ?_
      refine XR_a (op_move rfl) rfl rfl ?_
      refine XR_a (op_len rfl rfl rfl) rfl rfl ?_
      refine XR_a (op_neq rfl rfl) rfl rfl ?_
      refine XR_nil ?_
      refine X_if rfl (fun h => ?_) (fun h => ?_)
      · exact absurd h (fun hh => hh rfl)
      · refine X_skip ?_
        refine X_seq ?_
        refine X_reg ?_
        refine XR_a (op_assign rfl) rfl rfl ?_
        refine XR_nil ?_
        refine X_seq ?_
        refine X_seq ?_
        refine X_reg ?_
        refine XR_a (op_assign rfl) rfl rfl ?_
        refine XR_nil ?_
        refine X_block ?_
        refine X_loop (fun i => n - i) (fun i => [(0, .slice A n c), (3, .slice A3 n c3), (5, nV (fltTo ws i).length), (6, nV i)])
          (fun (i : Nat) hp => hp = hp1 ∧ i ≤ n)
          0 (.cons rfl (.cons rfl (.cons rfl (.cons rfl (.nil _))))) ⟨rfl, Nat.zero_le _⟩ ?_
        rintro i hp ⟨rfl, hi⟩
        refine X_seq ?_
        refine X_seq ?_
        refine X_reg ?_
        refine XR_a (op_move rfl) rfl rfl ?_
        refine XR_a (op_move rfl) rfl rfl ?_
        refine XR_a (op_len rfl rfl rfl) rfl rfl ?_
        refine XR_a (op_lss rfl rfl) rfl rfl ?_
        refine XR_nil ?_
        refine X_if rfl (fun h => ?_) (fun h => ?_)
        · have hlt : i < ws.length := by omega
          obtain ⟨gA, oA, rfl, hcA⟩ := hw0.at_ (by rw [List.length_map]; omega)
          obtain ⟨gB, oB, rfl, hcB⟩ := hrd3.at_ (by rw [List.length_map, lensW_length]; omega)
          have hwA : ∀ k, k < n → cellH hp ⟨gA, oA + k, none⟩ = some (nV (wkey ws k)) := fun k hk => hcA k _ (by unfold wkey; simp [List.getD, hlw, hk])
          have hwB : ∀ k, k < n → cellH hp ⟨gB, oB + k, none⟩ = some (nV (lenW ws k)) := fun k hk => hcB k _ (by unfold lensW; simp [hlw, hk])
          have hAi := hwA i (by omega)
          have hBi := hwB i (by omega)
          have hiff := lenW_iff (ws := ws) (by omega) hlt
          have h15 := lenW_le ws i
          have hfs := fltTo_succ ws i
          have hfl := fltTo_len ws i
          refine X_skip ?_
          refine X_seq ?_
          refine X_block ?_
          refine X_seq ?_
          refine X_seq ?_
          refine X_draw byKind (by kernel_rfl) (by kernel_rfl) ?_
          refine XR_a (op_move rfl) rfl rfl ?_
          refine XR_a (op_move rfl) rfl rfl ?_
          first | refine XR_a (op_index1 rfl rfl rfl (by omega)) rfl rfl ?_ | refine XR_a (op_index rfl rfl rfl (by omega)) rfl rfl ?_
          refine XR_a (op_ld (hAi) rfl rfl rfl) rfl rfl ?_
          refine XR_a (op_gtr rfl rfl) rfl rfl ?_
          refine XR_a (op_move rfl) rfl rfl ?_
          refine XR_a (op_move rfl) rfl rfl ?_
          first | refine XR_a (op_index1 rfl rfl rfl (by omega)) rfl rfl ?_ | refine XR_a (op_index rfl rfl rfl (by omega)) rfl rfl ?_
          refine XR_a (op_ld (hBi) rfl rfl rfl) rfl rfl ?_
          refine XR_a (op_gtr rfl rfl) rfl rfl ?_
          refine XR_a (op_neqB rfl rfl rfl) rfl rfl ?_
          refine XR_as (.bool false) (congrArg Value.bool (decide_eq_false fun hh => hh (decide_eq_decide.2 (by omega)))) ?_
          refine XR_a (op_move rfl) rfl rfl ?_
          refine XR_a (op_move rfl) rfl rfl ?_
          refine XR_a (op_move rfl) rfl rfl ?_
          first | refine XR_a (op_index1 rfl rfl rfl (by omega)) rfl rfl ?_ | refine XR_a (op_index rfl rfl rfl (by omega)) rfl rfl ?_
          refine XR_a (op_ld (hBi) rfl rfl rfl) rfl rfl ?_
          refine XR_a (op_gtr rfl rfl) rfl rfl ?_
          refine XR_as (.bool false) (congrArg Value.bool (decide_eq_false (by omega))) ?_
          refine XR_a (op_pick_f rfl rfl) rfl rfl ?_
          refine XR_nil ?_
          refine X_else rfl ?_
          refine X_skip ?_
          refine X_seq ?_
          refine X_seq ?_
          refine X_reg ?_
          refine XR_a (op_move rfl) rfl rfl ?_
          refine XR_a (op_move rfl) rfl rfl ?_
          first | refine XR_a (op_index1 rfl rfl rfl (by omega)) rfl rfl ?_ | refine XR_a (op_index rfl rfl rfl (by omega)) rfl rfl ?_
          refine XR_a (op_ld (hAi) rfl rfl rfl) rfl rfl ?_
          refine XR_a (op_gtr rfl rfl) rfl rfl ?_
          refine XR_nil ?_
          refine X_if rfl (fun h => ?_) (fun h => ?_)
          · refine X_reg ?_
            refine XR_a (op_move rfl) rfl rfl ?_
            first | refine XR_a (op_addN (n := 1) rfl rfl (by simp only [inK]; omega)) rfl rfl ?_ | refine XR_a (op_addI rfl rfl (by simp only [inK]; omega)) rfl rfl ?_ | refine XR_a (op_add rfl rfl) rfl rfl ?_
            refine XR_a (op_assign rfl) rfl rfl ?_
            refine XR_nil ?_
            refine X_seq ?_
            refine X_reg ?_
            refine XR_a (op_assign rfl) rfl rfl ?_
            refine XR_nil ?_
            refine X_block ?_
            obtain ⟨m, hm⟩ : ∃ m, (fltTo ws i).length + 1 = m := ⟨_, rfl⟩
            have hm2 : (fltTo ws (i + 1)).length = m := by rw [hfs, if_pos (by omega)]; simp; omega
            rw [hm]
            refine X_loop (fun k => i - k) (fun k => [(0, .slice (some ⟨gA, oA, none⟩) n c), (3, .slice (some ⟨gB, oB, none⟩) n c3), (5, nV m), (6, nV i), (7, nV k)])
              (fun (k : Nat) hp' => hp' = hp ∧ k ≤ i)
              0 (.cons rfl (.cons rfl (.cons rfl (.cons rfl (.cons rfl (.nil _)))))) ⟨rfl, Nat.zero_le _⟩ ?_
            rintro k hp2 ⟨rfl, hki⟩
            refine X_seq ?_
            refine X_seq ?_
            refine X_reg ?_
            refine XR_a (op_move rfl) rfl rfl ?_
            refine XR_a (op_move rfl) rfl rfl ?_
            refine XR_a (op_lss rfl rfl) rfl rfl ?_
            refine XR_nil ?_
            refine X_if rfl (fun h => ?_) (fun h => ?_)
            · have hAk := hwA k (by omega)
              have hBk := hwB k (by omega)
              have hki2 : k < ws.length := by omega
              have hmono1 : wkey ws k < wkey ws i → 0 < wkey ws k → lenW ws i ≤ lenW ws k := fun h1 h2 => lenW_mono ((mem_syms_iff hki2).2 h2) ((mem_syms_iff hlt).2 (by omega)) h1
              have hmono2 : wkey ws i < wkey ws k → 0 < wkey ws i → lenW ws k ≤ lenW ws i := fun h1 h2 => lenW_mono ((mem_syms_iff hlt).2 h2) ((mem_syms_iff hki2).2 (by omega)) h1
              refine X_skip ?_
              refine X_seq ?_
              refine X_block ?_
              refine X_seq ?_
              refine X_draw byKind (by kernel_rfl) (by kernel_rfl) ?_
              refine XR_a (op_move rfl) rfl rfl ?_
              refine XR_a (op_move rfl) rfl rfl ?_
              first | refine XR_a (op_index1 rfl rfl rfl (by omega)) rfl rfl ?_ | refine XR_a (op_index rfl rfl rfl (by omega)) rfl rfl ?_
              refine XR_a (op_ld (hAi) rfl rfl rfl) rfl rfl ?_
              refine XR_a (op_move rfl) rfl rfl ?_
              refine XR_a (op_move rfl) rfl rfl ?_
              first | refine XR_a (op_index1 rfl rfl rfl (by omega)) rfl rfl ?_ | refine XR_a (op_index rfl rfl rfl (by omega)) rfl rfl ?_
              refine XR_a (op_ld (hAk) rfl rfl rfl) rfl rfl ?_
              refine XR_a (op_gtr rfl rfl) rfl rfl ?_
              refine XR_a (op_move rfl) rfl rfl ?_
              refine XR_if 71 rfl (fun h => ?_) (fun h => ?_)
              · have h71 := h
                refine XR_a (op_move rfl) rfl rfl ?_
                refine XR_a (op_move rfl) rfl rfl ?_
                first | refine XR_a (op_index1 rfl rfl rfl (by omega)) rfl rfl ?_ | refine XR_a (op_index rfl rfl rfl (by omega)) rfl rfl ?_
                refine XR_a (op_ld (hAk) rfl rfl rfl) rfl rfl ?_
                refine XR_a (op_gtr rfl rfl) rfl rfl ?_
                refine XR_a (op_pick_t rfl rfl) rfl rfl ?_
                refine XR_a (op_move rfl) rfl rfl ?_
                refine XR_if 78 rfl (fun h => ?_) (fun h => ?_)
                · have h78 := h
                  refine XR_a (op_move rfl) rfl rfl ?_
                  refine XR_a (op_move rfl) rfl rfl ?_
                  first | refine XR_a (op_index1 rfl rfl rfl (by omega)) rfl rfl ?_ | refine XR_a (op_index rfl rfl rfl (by omega)) rfl rfl ?_
                  refine XR_a (op_ld (hBi) rfl rfl rfl) rfl rfl ?_
                  refine XR_a (op_move rfl) rfl rfl ?_
                  refine XR_a (op_move rfl) rfl rfl ?_
                  first | refine XR_a (op_index1 rfl rfl rfl (by omega)) rfl rfl ?_ | refine XR_a (op_index rfl rfl rfl (by omega)) rfl rfl ?_
                  refine XR_a (op_ld (hBk) rfl rfl rfl) rfl rfl ?_
                  have := hmono1 (by omega) (by omega)
                  refine XR_a (op_gtr rfl rfl) rfl rfl ?_
                  refine XR_as (.bool false) (congrArg Value.bool (decide_eq_false (by omega))) ?_
                  refine XR_a (op_pick_t rfl rfl) rfl rfl ?_
                  refine XR_a (op_move rfl) rfl rfl ?_
                  refine XR_a (op_move rfl) rfl rfl ?_
                  refine XR_a (op_move rfl) rfl rfl ?_
                  first | refine XR_a (op_index1 rfl rfl rfl (by omega)) rfl rfl ?_ | refine XR_a (op_index rfl rfl rfl (by omega)) rfl rfl ?_
                  refine XR_a (op_ld (hAk) rfl rfl rfl) rfl rfl ?_
                  refine XR_a (op_move rfl) rfl rfl ?_
                  refine XR_a (op_move rfl) rfl rfl ?_
                  first | refine XR_a (op_index1 rfl rfl rfl (by omega)) rfl rfl ?_ | refine XR_a (op_index rfl rfl rfl (by omega)) rfl rfl ?_
                  refine XR_a (op_ld (hAi) rfl rfl rfl) rfl rfl ?_
                  refine XR_a (op_gtr rfl rfl) rfl rfl ?_
                  refine XR_a (op_move rfl) rfl rfl ?_
                  refine XR_if 99 rfl (fun h => ?_) (fun h => ?_)
                  · have h99 := h
                    refine XR_a (op_move rfl) rfl rfl ?_
                    refine XR_a (op_move rfl) rfl rfl ?_
                    first | refine XR_a (op_index1 rfl rfl rfl (by omega)) rfl rfl ?_ | refine XR_a (op_index rfl rfl rfl (by omega)) rfl rfl ?_
                    refine XR_a (op_ld (hAi) rfl rfl rfl) rfl rfl ?_
                    refine XR_a (op_gtr rfl rfl) rfl rfl ?_
                    refine XR_a (op_pick_t rfl rfl) rfl rfl ?_
                    refine XR_a (op_move rfl) rfl rfl ?_
                    refine XR_if 106 rfl (fun h => ?_) (fun h => ?_)
                    · have h106 := h
                      refine XR_a (op_move rfl) rfl rfl ?_
                      refine XR_a (op_move rfl) rfl rfl ?_
                      first | refine XR_a (op_index1 rfl rfl rfl (by omega)) rfl rfl ?_ | refine XR_a (op_index rfl rfl rfl (by omega)) rfl rfl ?_
                      refine XR_a (op_ld (hBk) rfl rfl rfl) rfl rfl ?_
                      refine XR_a (op_move rfl) rfl rfl ?_
                      refine XR_a (op_move rfl) rfl rfl ?_
                      first | refine XR_a (op_index1 rfl rfl rfl (by omega)) rfl rfl ?_ | refine XR_a (op_index rfl rfl rfl (by omega)) rfl rfl ?_
                      refine XR_a (op_ld (hBi) rfl rfl rfl) rfl rfl ?_
                      have := hmono2 (by omega) (by omega)
                      refine XR_a (op_gtr rfl rfl) rfl rfl ?_
                      refine XR_as (.bool false) (congrArg Value.bool (decide_eq_false (by omega))) ?_
                      refine XR_a (op_pick_t rfl rfl) rfl rfl ?_
                      refine XR_a (op_pick_f rfl rfl) rfl rfl ?_
                      refine XR_nil ?_
                      refine X_else rfl ?_
                      refine X_skip ?_
                      refine X_blk ?_
                      refine X_reg ?_
                      refine XR_a (op_move rfl) rfl rfl ?_
                      first | refine XR_a (op_addN (n := 1) rfl rfl (by simp only [inK]; omega)) rfl rfl ?_ | refine XR_a (op_addI rfl rfl (by simp only [inK]; omega)) rfl rfl ?_ | refine XR_a (op_add rfl rfl) rfl rfl ?_
                      refine XR_a (op_assign rfl) rfl rfl ?_
                      refine XR_nil ?_
                      exact X_again (k + 1) (.cons rfl (.cons rfl (.cons rfl (.cons rfl (.cons rfl (.nil _)))))) ⟨rfl, by omega⟩ (by omega)
                    · refine XR_no rfl rfl ?_
                      refine XR_no rfl rfl ?_
                      refine XR_no rfl rfl ?_
                      refine XR_no rfl rfl ?_
                      refine XR_no rfl rfl ?_
                      refine XR_no rfl rfl ?_
                      refine XR_no rfl rfl ?_
                      refine XR_no rfl rfl ?_
                      refine XR_no rfl rfl ?_
                      refine XR_a (op_pick_f rfl rfl) rfl rfl ?_
                      refine XR_a (op_pick_f rfl rfl) rfl rfl ?_
                      refine XR_nil ?_
                      refine X_else rfl ?_
                      refine X_skip ?_
                      refine X_blk ?_
                      refine X_reg ?_
                      refine XR_a (op_move rfl) rfl rfl ?_
                      first | refine XR_a (op_addN (n := 1) rfl rfl (by simp only [inK]; omega)) rfl rfl ?_ | refine XR_a (op_addI rfl rfl (by simp only [inK]; omega)) rfl rfl ?_ | refine XR_a (op_add rfl rfl) rfl rfl ?_
                      refine XR_a (op_assign rfl) rfl rfl ?_
                      refine XR_nil ?_
                      exact X_again (k + 1) (.cons rfl (.cons rfl (.cons rfl (.cons rfl (.cons rfl (.nil _)))))) ⟨rfl, by omega⟩ (by omega)
                  · refine XR_no rfl rfl ?_
                    refine XR_no rfl rfl ?_
                    refine XR_no rfl rfl ?_
                    refine XR_no rfl rfl ?_
                    refine XR_no rfl rfl ?_
                    refine XR_a (op_pick_f rfl rfl) rfl rfl ?_
                    refine XR_a (op_move rfl) rfl rfl ?_
                    refine XR_no rfl rfl ?_
                    refine XR_no rfl rfl ?_
                    refine XR_no rfl rfl ?_
                    refine XR_no rfl rfl ?_
                    refine XR_no rfl rfl ?_
                    refine XR_no rfl rfl ?_
                    refine XR_no rfl rfl ?_
                    refine XR_no rfl rfl ?_
                    refine XR_no rfl rfl ?_
                    refine XR_a (op_pick_f rfl rfl) rfl rfl ?_
                    refine XR_a (op_pick_f rfl rfl) rfl rfl ?_
                    refine XR_nil ?_
                    refine X_else rfl ?_
                    refine X_skip ?_
                    refine X_blk ?_
                    refine X_reg ?_
                    refine XR_a (op_move rfl) rfl rfl ?_
                    first | refine XR_a (op_addN (n := 1) rfl rfl (by simp only [inK]; omega)) rfl rfl ?_ | refine XR_a (op_addI rfl rfl (by simp only [inK]; omega)) rfl rfl ?_ | refine XR_a (op_add rfl rfl) rfl rfl ?_
                    refine XR_a (op_assign rfl) rfl rfl ?_
                    refine XR_nil ?_
                    exact X_again (k + 1) (.cons rfl (.cons rfl (.cons rfl (.cons rfl (.cons rfl (.nil _)))))) ⟨rfl, by omega⟩ (by omega)
                · refine XR_no rfl rfl ?_
                  refine XR_no rfl rfl ?_
                  refine XR_no rfl rfl ?_
                  refine XR_no rfl rfl ?_
                  refine XR_no rfl rfl ?_
                  refine XR_no rfl rfl ?_
                  refine XR_no rfl rfl ?_
                  refine XR_no rfl rfl ?_
                  refine XR_no rfl rfl ?_
                  refine XR_a (op_pick_f rfl rfl) rfl rfl ?_
                  refine XR_a (op_move rfl) rfl rfl ?_
                  refine XR_a (op_move rfl) rfl rfl ?_
                  refine XR_a (op_move rfl) rfl rfl ?_
                  first | refine XR_a (op_index1 rfl rfl rfl (by omega)) rfl rfl ?_ | refine XR_a (op_index rfl rfl rfl (by omega)) rfl rfl ?_
                  refine XR_a (op_ld (hAk) rfl rfl rfl) rfl rfl ?_
                  refine XR_a (op_move rfl) rfl rfl ?_
                  refine XR_a (op_move rfl) rfl rfl ?_
                  first | refine XR_a (op_index1 rfl rfl rfl (by omega)) rfl rfl ?_ | refine XR_a (op_index rfl rfl rfl (by omega)) rfl rfl ?_
                  refine XR_a (op_ld (hAi) rfl rfl rfl) rfl rfl ?_
                  refine XR_a (op_gtr rfl rfl) rfl rfl ?_
                  refine XR_a (op_move rfl) rfl rfl ?_
                  refine XR_if 99 rfl (fun h => ?_) (fun h => ?_)
                  · have h99 := h
                    refine XR_a (op_move rfl) rfl rfl ?_
                    refine XR_a (op_move rfl) rfl rfl ?_
                    first | refine XR_a (op_index1 rfl rfl rfl (by omega)) rfl rfl ?_ | refine XR_a (op_index rfl rfl rfl (by omega)) rfl rfl ?_
                    refine XR_a (op_ld (hAi) rfl rfl rfl) rfl rfl ?_
                    refine XR_a (op_gtr rfl rfl) rfl rfl ?_
                    refine XR_a (op_pick_t rfl rfl) rfl rfl ?_
                    refine XR_a (op_move rfl) rfl rfl ?_
                    refine XR_if 106 rfl (fun h => ?_) (fun h => ?_)
                    · have h106 := h
                      refine XR_a (op_move rfl) rfl rfl ?_
                      refine XR_a (op_move rfl) rfl rfl ?_
                      first | refine XR_a (op_index1 rfl rfl rfl (by omega)) rfl rfl ?_ | refine XR_a (op_index rfl rfl rfl (by omega)) rfl rfl ?_
                      refine XR_a (op_ld (hBk) rfl rfl rfl) rfl rfl ?_
                      refine XR_a (op_move rfl) rfl rfl ?_
                      refine XR_a (op_move rfl) rfl rfl ?_
                      first | refine XR_a (op_index1 rfl rfl rfl (by omega)) rfl rfl ?_ | refine XR_a (op_index rfl rfl rfl (by omega)) rfl rfl ?_
                      refine XR_a (op_ld (hBi) rfl rfl rfl) rfl rfl ?_
                      have := hmono2 (by omega) (by omega)
                      refine XR_a (op_gtr rfl rfl) rfl rfl ?_
                      refine XR_as (.bool false) (congrArg Value.bool (decide_eq_false (by omega))) ?_
                      refine XR_a (op_pick_t rfl rfl) rfl rfl ?_
                      refine XR_a (op_pick_f rfl rfl) rfl rfl ?_
                      refine XR_nil ?_
                      refine X_else rfl ?_
                      refine X_skip ?_
                      refine X_blk ?_
                      refine X_reg ?_
                      refine XR_a (op_move rfl) rfl rfl ?_
                      first | refine XR_a (op_addN (n := 1) rfl rfl (by simp only [inK]; omega)) rfl rfl ?_ | refine XR_a (op_addI rfl rfl (by simp only [inK]; omega)) rfl rfl ?_ | refine XR_a (op_add rfl rfl) rfl rfl ?_
                      refine XR_a (op_assign rfl) rfl rfl ?_
                      refine XR_nil ?_
                      exact X_again (k + 1) (.cons rfl (.cons rfl (.cons rfl (.cons rfl (.cons rfl (.nil _)))))) ⟨rfl, by omega⟩ (by omega)
                    · refine XR_no rfl rfl ?_
                      refine XR_no rfl rfl ?_
                      refine XR_no rfl rfl ?_
                      refine XR_no rfl rfl ?_
                      refine XR_no rfl rfl ?_
                      refine XR_no rfl rfl ?_
                      refine XR_no rfl rfl ?_
                      refine XR_no rfl rfl ?_
                      refine XR_no rfl rfl ?_
                      refine XR_a (op_pick_f rfl rfl) rfl rfl ?_
                      refine XR_a (op_pick_f rfl rfl) rfl rfl ?_
                      refine XR_nil ?_
                      refine X_else rfl ?_
                      refine X_skip ?_
                      refine X_blk ?_
                      refine X_reg ?_
                      refine XR_a (op_move rfl) rfl rfl ?_
                      first | refine XR_a (op_addN (n := 1) rfl rfl (by simp only [inK]; omega)) rfl rfl ?_ | refine XR_a (op_addI rfl rfl (by simp only [inK]; omega)) rfl rfl ?_ | refine XR_a (op_add rfl rfl) rfl rfl ?_
                      refine XR_a (op_assign rfl) rfl rfl ?_
                      refine XR_nil ?_
                      exact X_again (k + 1) (.cons rfl (.cons rfl (.cons rfl (.cons rfl (.cons rfl (.nil _)))))) ⟨rfl, by omega⟩ (by omega)
                  · refine XR_no rfl rfl ?_
                    refine XR_no rfl rfl ?_
                    refine XR_no rfl rfl ?_
                    refine XR_no rfl rfl ?_
                    refine XR_no rfl rfl ?_
                    refine XR_a (op_pick_f rfl rfl) rfl rfl ?_
                    refine XR_a (op_move rfl) rfl rfl ?_
                    refine XR_no rfl rfl ?_
                    refine XR_no rfl rfl ?_
                    refine XR_no rfl rfl ?_
                    refine XR_no rfl rfl ?_
                    refine XR_no rfl rfl ?_
                    refine XR_no rfl rfl ?_
                    refine XR_no rfl rfl ?_
                    refine XR_no rfl rfl ?_
                    refine XR_no rfl rfl ?_
                    refine XR_a (op_pick_f rfl rfl) rfl rfl ?_
                    refine XR_a (op_pick_f rfl rfl) rfl rfl ?_
                    refine XR_nil ?_
                    refine X_else rfl ?_
                    refine X_skip ?_
                    refine X_blk ?_
                    refine X_reg ?_
                    refine XR_a (op_move rfl) rfl rfl ?_
                    first | refine XR_a (op_addN (n := 1) rfl rfl (by simp only [inK]; omega)) rfl rfl ?_ | refine XR_a (op_addI rfl rfl (by simp only [inK]; omega)) rfl rfl ?_ | refine XR_a (op_add rfl rfl) rfl rfl ?_
                    refine XR_a (op_assign rfl) rfl rfl ?_
                    refine XR_nil ?_
                    exact X_again (k + 1) (.cons rfl (.cons rfl (.cons rfl (.cons rfl (.cons rfl (.nil _)))))) ⟨rfl, by omega⟩ (by omega)
              · refine XR_no rfl rfl ?_
                refine XR_no rfl rfl ?_
                refine XR_no rfl rfl ?_
                refine XR_no rfl rfl ?_
                refine XR_no rfl rfl ?_
                refine XR_a (op_pick_f rfl rfl) rfl rfl ?_
                refine XR_a (op_move rfl) rfl rfl ?_
                refine XR_no rfl rfl ?_
                refine XR_no rfl rfl ?_
                refine XR_no rfl rfl ?_
                refine XR_no rfl rfl ?_
                refine XR_no rfl rfl ?_
                refine XR_no rfl rfl ?_
                refine XR_no rfl rfl ?_
                refine XR_no rfl rfl ?_
                refine XR_no rfl rfl ?_
                refine XR_a (op_pick_f rfl rfl) rfl rfl ?_
                refine XR_a (op_move rfl) rfl rfl ?_
                refine XR_a (op_move rfl) rfl rfl ?_
                refine XR_a (op_move rfl) rfl rfl ?_
                first | refine XR_a (op_index1 rfl rfl rfl (by omega)) rfl rfl ?_ | refine XR_a (op_index rfl rfl rfl (by omega)) rfl rfl ?_
                refine XR_a (op_ld (hAk) rfl rfl rfl) rfl rfl ?_
                refine XR_a (op_move rfl) rfl rfl ?_
                refine XR_a (op_move rfl) rfl rfl ?_
                first | refine XR_a (op_index1 rfl rfl rfl (by omega)) rfl rfl ?_ | refine XR_a (op_index rfl rfl rfl (by omega)) rfl rfl ?_
                refine XR_a (op_ld (hAi) rfl rfl rfl) rfl rfl ?_
                refine XR_a (op_gtr rfl rfl) rfl rfl ?_
                refine XR_a (op_move rfl) rfl rfl ?_
                refine XR_if 99 rfl (fun h => ?_) (fun h => ?_)
                · have h99 := h
                  refine XR_a (op_move rfl) rfl rfl ?_
                  refine XR_a (op_move rfl) rfl rfl ?_
                  first | refine XR_a (op_index1 rfl rfl rfl (by omega)) rfl rfl ?_ | refine XR_a (op_index rfl rfl rfl (by omega)) rfl rfl ?_
                  refine XR_a (op_ld (hAi) rfl rfl rfl) rfl rfl ?_
                  refine XR_a (op_gtr rfl rfl) rfl rfl ?_
                  refine XR_a (op_pick_t rfl rfl) rfl rfl ?_
                  refine XR_a (op_move rfl) rfl rfl ?_
                  refine XR_if 106 rfl (fun h => ?_) (fun h => ?_)
                  · have h106 := h
                    refine XR_a (op_move rfl) rfl rfl ?_
                    refine XR_a (op_move rfl) rfl rfl ?_
                    first | refine XR_a (op_index1 rfl rfl rfl (by omega)) rfl rfl ?_ | refine XR_a (op_index rfl rfl rfl (by omega)) rfl rfl ?_
                    refine XR_a (op_ld (hBk) rfl rfl rfl) rfl rfl ?_
                    refine XR_a (op_move rfl) rfl rfl ?_
                    refine XR_a (op_move rfl) rfl rfl ?_
                    first | refine XR_a (op_index1 rfl rfl rfl (by omega)) rfl rfl ?_ | refine XR_a (op_index rfl rfl rfl (by omega)) rfl rfl ?_
                    refine XR_a (op_ld (hBi) rfl rfl rfl) rfl rfl ?_
                    have := hmono2 (by omega) (by omega)
                    refine XR_a (op_gtr rfl rfl) rfl rfl ?_
                    refine XR_as (.bool false) (congrArg Value.bool (decide_eq_false (by omega))) ?_
                    refine XR_a (op_pick_t rfl rfl) rfl rfl ?_
                    refine XR_a (op_pick_f rfl rfl) rfl rfl ?_
                    refine XR_nil ?_
                    refine X_else rfl ?_
                    refine X_skip ?_
                    refine X_blk ?_
                    refine X_reg ?_
                    refine XR_a (op_move rfl) rfl rfl ?_
                    first | refine XR_a (op_addN (n := 1) rfl rfl (by simp only [inK]; omega)) rfl rfl ?_ | refine XR_a (op_addI rfl rfl (by simp only [inK]; omega)) rfl rfl ?_ | refine XR_a (op_add rfl rfl) rfl rfl ?_
                    refine XR_a (op_assign rfl) rfl rfl ?_
                    refine XR_nil ?_
                    exact X_again (k + 1) (.cons rfl (.cons rfl (.cons rfl (.cons rfl (.cons rfl (.nil _)))))) ⟨rfl, by omega⟩ (by omega)
                  · refine XR_no rfl rfl ?_
                    refine XR_no rfl rfl ?_
                    refine XR_no rfl rfl ?_
                    refine XR_no rfl rfl ?_
                    refine XR_no rfl rfl ?_
                    refine XR_no rfl rfl ?_
                    refine XR_no rfl rfl ?_
                    refine XR_no rfl rfl ?_
                    refine XR_no rfl rfl ?_
                    refine XR_a (op_pick_f rfl rfl) rfl rfl ?_
                    refine XR_a (op_pick_f rfl rfl) rfl rfl ?_
                    refine XR_nil ?_
                    refine X_else rfl ?_
                    refine X_skip ?_
                    refine X_blk ?_
                    refine X_reg ?_
                    refine XR_a (op_move rfl) rfl rfl ?_
                    first | refine XR_a (op_addN (n := 1) rfl rfl (by simp only [inK]; omega)) rfl rfl ?_ | refine XR_a (op_addI rfl rfl (by simp only [inK]; omega)) rfl rfl ?_ | refine XR_a (op_add rfl rfl) rfl rfl ?_
                    refine XR_a (op_assign rfl) rfl rfl ?_
                    refine XR_nil ?_
                    exact X_again (k + 1) (.cons rfl (.cons rfl (.cons rfl (.cons rfl (.cons rfl (.nil _)))))) ⟨rfl, by omega⟩ (by omega)
                · refine XR_no rfl rfl ?_
                  refine XR_no rfl rfl ?_
                  refine XR_no rfl rfl ?_
                  refine XR_no rfl rfl ?_
                  refine XR_no rfl rfl ?_
                  refine XR_a (op_pick_f rfl rfl) rfl rfl ?_
                  refine XR_a (op_move rfl) rfl rfl ?_
                  refine XR_no rfl rfl ?_
                  refine XR_no rfl rfl ?_
                  refine XR_no rfl rfl ?_
                  refine XR_no rfl rfl ?_
                  refine XR_no rfl rfl ?_
                  refine XR_no rfl rfl ?_
                  refine XR_no rfl rfl ?_
                  refine XR_no rfl rfl ?_
                  refine XR_no rfl rfl ?_
                  refine XR_a (op_pick_f rfl rfl) rfl rfl ?_
                  refine XR_a (op_pick_f rfl rfl) rfl rfl ?_
                  refine XR_nil ?_
                  refine X_else rfl ?_
                  refine X_skip ?_
                  refine X_blk ?_
                  refine X_reg ?_
                  refine XR_a (op_move rfl) rfl rfl ?_
                  first | refine XR_a (op_addN (n := 1) rfl rfl (by simp only [inK]; omega)) rfl rfl ?_ | refine XR_a (op_addI rfl rfl (by simp only [inK]; omega)) rfl rfl ?_ | refine XR_a (op_add rfl rfl) rfl rfl ?_
                  refine XR_a (op_assign rfl) rfl rfl ?_
                  refine XR_nil ?_
                  exact X_again (k + 1) (.cons rfl (.cons rfl (.cons rfl (.cons rfl (.cons rfl (.nil _)))))) ⟨rfl, by omega⟩ (by omega)
            · refine X_exit rfl ?_
              refine X_blk ?_
              refine X_reg ?_
              refine XR_a (op_move rfl) rfl rfl ?_
              first | refine XR_a (op_addN (n := 1) rfl rfl (by simp only [inK]; omega)) rfl rfl ?_ | refine XR_a (op_addI rfl rfl (by simp only [inK]; omega)) rfl rfl ?_ | refine XR_a (op_add rfl rfl) rfl rfl ?_
              refine XR_a (op_assign rfl) rfl rfl ?_
              refine XR_nil ?_
              exact X_again (i + 1) (.cons rfl (.cons rfl (.cons (by rw [hm2]; rfl) (.cons rfl (.nil _))))) ⟨rfl, by omega⟩ (by omega)
          · refine X_skip ?_
            refine X_seq ?_
            refine X_reg ?_
            refine XR_a (op_assign rfl) rfl rfl ?_
            refine XR_nil ?_
            refine X_block ?_
            obtain ⟨m, hm⟩ : ∃ m, (fltTo ws i).length = m := ⟨_, rfl⟩
            have hm2 : (fltTo ws (i + 1)).length = m := by rw [hfs, if_neg (by omega)]; simp; omega
            rw [hm]
            refine X_loop (fun k => i - k) (fun k => [(0, .slice (some ⟨gA, oA, none⟩) n c), (3, .slice (some ⟨gB, oB, none⟩) n c3), (5, nV m), (6, nV i), (7, nV k)])
              (fun (k : Nat) hp' => hp' = hp ∧ k ≤ i)
              0 (.cons rfl (.cons rfl (.cons rfl (.cons rfl (.cons rfl (.nil _)))))) ⟨rfl, Nat.zero_le _⟩ ?_
            rintro k hp2 ⟨rfl, hki⟩
            refine X_seq ?_
            refine X_seq ?_
            refine X_reg ?_
            refine XR_a (op_move rfl) rfl rfl ?_
            refine XR_a (op_move rfl) rfl rfl ?_
            refine XR_a (op_lss rfl rfl) rfl rfl ?_
            refine XR_nil ?_
            refine X_if rfl (fun h => ?_) (fun h => ?_)
            · have hAk := hwA k (by omega)
              have hBk := hwB k (by omega)
              have hki2 : k < ws.length := by omega
              have hmono1 : wkey ws k < wkey ws i → 0 < wkey ws k → lenW ws i ≤ lenW ws k := fun h1 h2 => lenW_mono ((mem_syms_iff hki2).2 h2) ((mem_syms_iff hlt).2 (by omega)) h1
              have hmono2 : wkey ws i < wkey ws k → 0 < wkey ws i → lenW ws k ≤ lenW ws i := fun h1 h2 => lenW_mono ((mem_syms_iff hlt).2 h2) ((mem_syms_iff hki2).2 (by omega)) h1
              refine X_skip ?_
              refine X_seq ?_
              refine X_block ?_
              refine X_seq ?_
              refine X_draw byKind (by kernel_rfl) (by kernel_rfl) ?_
              refine XR_a (op_move rfl) rfl rfl ?_
              refine XR_a (op_move rfl) rfl rfl ?_
              first | refine XR_a (op_index1 rfl rfl rfl (by omega)) rfl rfl ?_ | refine XR_a (op_index rfl rfl rfl (by omega)) rfl rfl ?_
              refine XR_a (op_ld (hAi) rfl rfl rfl) rfl rfl ?_
              refine XR_a (op_move rfl) rfl rfl ?_
              refine XR_a (op_move rfl) rfl rfl ?_
              first | refine XR_a (op_index1 rfl rfl rfl (by omega)) rfl rfl ?_ | refine XR_a (op_index rfl rfl rfl (by omega)) rfl rfl ?_
              refine XR_a (op_ld (hAk) rfl rfl rfl) rfl rfl ?_
              refine XR_a (op_gtr rfl rfl) rfl rfl ?_
              refine XR_a (op_move rfl) rfl rfl ?_
              refine XR_if 71 rfl (fun h => ?_) (fun h => ?_)
              · have h71 := h
                refine XR_a (op_move rfl) rfl rfl ?_
                refine XR_a (op_move rfl) rfl rfl ?_
                first | refine XR_a (op_index1 rfl rfl rfl (by omega)) rfl rfl ?_ | refine XR_a (op_index rfl rfl rfl (by omega)) rfl rfl ?_
                refine XR_a (op_ld (hAk) rfl rfl rfl) rfl rfl ?_
                refine XR_a (op_gtr rfl rfl) rfl rfl ?_
                refine XR_a (op_pick_t rfl rfl) rfl rfl ?_
                refine XR_a (op_move rfl) rfl rfl ?_
                refine XR_if 78 rfl (fun h => ?_) (fun h => ?_)
                · have h78 := h
                  refine XR_a (op_move rfl) rfl rfl ?_
                  refine XR_a (op_move rfl) rfl rfl ?_
                  first | refine XR_a (op_index1 rfl rfl rfl (by omega)) rfl rfl ?_ | refine XR_a (op_index rfl rfl rfl (by omega)) rfl rfl ?_
                  refine XR_a (op_ld (hBi) rfl rfl rfl) rfl rfl ?_
                  refine XR_a (op_move rfl) rfl rfl ?_
                  refine XR_a (op_move rfl) rfl rfl ?_
                  first | refine XR_a (op_index1 rfl rfl rfl (by omega)) rfl rfl ?_ | refine XR_a (op_index rfl rfl rfl (by omega)) rfl rfl ?_
                  refine XR_a (op_ld (hBk) rfl rfl rfl) rfl rfl ?_
                  have := hmono1 (by omega) (by omega)
                  refine XR_a (op_gtr rfl rfl) rfl rfl ?_
                  refine XR_as (.bool false) (congrArg Value.bool (decide_eq_false (by omega))) ?_
                  refine XR_a (op_pick_t rfl rfl) rfl rfl ?_
                  refine XR_a (op_move rfl) rfl rfl ?_
                  refine XR_a (op_move rfl) rfl rfl ?_
                  refine XR_a (op_move rfl) rfl rfl ?_
                  first | refine XR_a (op_index1 rfl rfl rfl (by omega)) rfl rfl ?_ | refine XR_a (op_index rfl rfl rfl (by omega)) rfl rfl ?_
                  refine XR_a (op_ld (hAk) rfl rfl rfl) rfl rfl ?_
                  refine XR_a (op_move rfl) rfl rfl ?_
                  refine XR_a (op_move rfl) rfl rfl ?_
                  first | refine XR_a (op_index1 rfl rfl rfl (by omega)) rfl rfl ?_ | refine XR_a (op_index rfl rfl rfl (by omega)) rfl rfl ?_
                  refine XR_a (op_ld (hAi) rfl rfl rfl) rfl rfl ?_
                  refine XR_a (op_gtr rfl rfl) rfl rfl ?_
                  refine XR_a (op_move rfl) rfl rfl ?_
                  refine XR_if 99 rfl (fun h => ?_) (fun h => ?_)
                  · have h99 := h
                    refine XR_a (op_move rfl) rfl rfl ?_
                    refine XR_a (op_move rfl) rfl rfl ?_
                    first | refine XR_a (op_index1 rfl rfl rfl (by omega)) rfl rfl ?_ | refine XR_a (op_index rfl rfl rfl (by omega)) rfl rfl ?_
                    refine XR_a (op_ld (hAi) rfl rfl rfl) rfl rfl ?_
                    refine XR_a (op_gtr rfl rfl) rfl rfl ?_
                    refine XR_a (op_pick_t rfl rfl) rfl rfl ?_
                    refine XR_a (op_move rfl) rfl rfl ?_
                    refine XR_if 106 rfl (fun h => ?_) (fun h => ?_)
                    · have h106 := h
                      refine XR_a (op_move rfl) rfl rfl ?_
                      refine XR_a (op_move rfl) rfl rfl ?_
                      first | refine XR_a (op_index1 rfl rfl rfl (by omega)) rfl rfl ?_ | refine XR_a (op_index rfl rfl rfl (by omega)) rfl rfl ?_
                      refine XR_a (op_ld (hBk) rfl rfl rfl) rfl rfl ?_
                      refine XR_a (op_move rfl) rfl rfl ?_
                      refine XR_a (op_move rfl) rfl rfl ?_
                      first | refine XR_a (op_index1 rfl rfl rfl (by omega)) rfl rfl ?_ | refine XR_a (op_index rfl rfl rfl (by omega)) rfl rfl ?_
                      refine XR_a (op_ld (hBi) rfl rfl rfl) rfl rfl ?_
                      have := hmono2 (by omega) (by omega)
                      refine XR_a (op_gtr rfl rfl) rfl rfl ?_
                      refine XR_as (.bool false) (congrArg Value.bool (decide_eq_false (by omega))) ?_
                      refine XR_a (op_pick_t rfl rfl) rfl rfl ?_
                      refine XR_a (op_pick_f rfl rfl) rfl rfl ?_
                      refine XR_nil ?_
                      refine X_else rfl ?_
                      refine X_skip ?_
                      refine X_blk ?_
                      refine X_reg ?_
                      refine XR_a (op_move rfl) rfl rfl ?_
                      first | refine XR_a (op_addN (n := 1) rfl rfl (by simp only [inK]; omega)) rfl rfl ?_ | refine XR_a (op_addI rfl rfl (by simp only [inK]; omega)) rfl rfl ?_ | refine XR_a (op_add rfl rfl) rfl rfl ?_
                      refine XR_a (op_assign rfl) rfl rfl ?_
                      refine XR_nil ?_
                      exact X_again (k + 1) (.cons rfl (.cons rfl (.cons rfl (.cons rfl (.cons rfl (.nil _)))))) ⟨rfl, by omega⟩ (by omega)
                    · refine XR_no rfl rfl ?_
                      refine XR_no rfl rfl ?_
                      refine XR_no rfl rfl ?_
                      refine XR_no rfl rfl ?_
                      refine XR_no rfl rfl ?_
                      refine XR_no rfl rfl ?_
                      refine XR_no rfl rfl ?_
                      refine XR_no rfl rfl ?_
                      refine XR_no rfl rfl ?_
                      refine XR_a (op_pick_f rfl rfl) rfl rfl ?_
                      refine XR_a (op_pick_f rfl rfl) rfl rfl ?_
                      refine XR_nil ?_
                      refine X_else rfl ?_
                      refine X_skip ?_
                      refine X_blk ?_
                      refine X_reg ?_
                      refine XR_a (op_move rfl) rfl rfl ?_
                      first | refine XR_a (op_addN (n := 1) rfl rfl (by simp only [inK]; omega)) rfl rfl ?_ | refine XR_a (op_addI rfl rfl (by simp only [inK]; omega)) rfl rfl ?_ | refine XR_a (op_add rfl rfl) rfl rfl ?_
                      refine XR_a (op_assign rfl) rfl rfl ?_
                      refine XR_nil ?_
                      exact X_again (k + 1) (.cons rfl (.cons rfl (.cons rfl (.cons rfl (.cons rfl (.nil _)))))) ⟨rfl, by omega⟩ (by omega)
                  · refine XR_no rfl rfl ?_
                    refine XR_no rfl rfl ?_
                    refine XR_no rfl rfl ?_
                    refine XR_no rfl rfl ?_
                    refine XR_no rfl rfl ?_
                    refine XR_a (op_pick_f rfl rfl) rfl rfl ?_
                    refine XR_a (op_move rfl) rfl rfl ?_
                    refine XR_no rfl rfl ?_
                    refine XR_no rfl rfl ?_
                    refine XR_no rfl rfl ?_
                    refine XR_no rfl rfl ?_
                    refine XR_no rfl rfl ?_
                    refine XR_no rfl rfl ?_
                    refine XR_no rfl rfl ?_
                    refine XR_no rfl rfl ?_
                    refine XR_no rfl rfl ?_
                    refine XR_a (op_pick_f rfl rfl) rfl rfl ?_
                    refine XR_a (op_pick_f rfl rfl) rfl rfl ?_
                    refine XR_nil ?_
                    refine X_else rfl ?_
                    refine X_skip ?_
                    refine X_blk ?_
                    refine X_reg ?_
                    refine XR_a (op_move rfl) rfl rfl ?_
                    first | refine XR_a (op_addN (n := 1) rfl rfl (by simp only [inK]; omega)) rfl rfl ?_ | refine XR_a (op_addI rfl rfl (by simp only [inK]; omega)) rfl rfl ?_ | refine XR_a (op_add rfl rfl) rfl rfl ?_
                    refine XR_a (op_assign rfl) rfl rfl ?_
                    refine XR_nil ?_
                    exact X_again (k + 1) (.cons rfl (.cons rfl (.cons rfl (.cons rfl (.cons rfl (.nil _)))))) ⟨rfl, by omega⟩ (by omega)
                · refine XR_no rfl rfl ?_
                  refine XR_no rfl rfl ?_
                  refine XR_no rfl rfl ?_
                  refine XR_no rfl rfl ?_
                  refine XR_no rfl rfl ?_
                  refine XR_no rfl rfl ?_
                  refine XR_no rfl rfl ?_
                  refine XR_no rfl rfl ?_
                  refine XR_no rfl rfl ?_
                  refine XR_a (op_pick_f rfl rfl) rfl rfl ?_
                  refine XR_a (op_move rfl) rfl rfl ?_
                  refine XR_a (op_move rfl) rfl rfl ?_
                  refine XR_a (op_move rfl) rfl rfl ?_
                  first | refine XR_a (op_index1 rfl rfl rfl (by omega)) rfl rfl ?_ | refine XR_a (op_index rfl rfl rfl (by omega)) rfl rfl ?_
                  refine XR_a (op_ld (hAk) rfl rfl rfl) rfl rfl ?_
                  refine XR_a (op_move rfl) rfl rfl ?_
                  refine XR_a (op_move rfl) rfl rfl ?_
                  first | refine XR_a (op_index1 rfl rfl rfl (by omega)) rfl rfl ?_ | refine XR_a (op_index rfl rfl rfl (by omega)) rfl rfl ?_
                  refine XR_a (op_ld (hAi) rfl rfl rfl) rfl rfl ?_
                  refine XR_a (op_gtr rfl rfl) rfl rfl ?_
                  refine XR_a (op_move rfl) rfl rfl ?_
                  refine XR_if 99 rfl (fun h => ?_) (fun h => ?_)
                  · have h99 := h
                    refine XR_a (op_move rfl) rfl rfl ?_
                    refine XR_a (op_move rfl) rfl rfl ?_
                    first | refine XR_a (op_index1 rfl rfl rfl (by omega)) rfl rfl ?_ | refine XR_a (op_index rfl rfl rfl (by omega)) rfl rfl ?_
                    refine XR_a (op_ld (hAi) rfl rfl rfl) rfl rfl ?_
                    refine XR_a (op_gtr rfl rfl) rfl rfl ?_
                    refine XR_a (op_pick_t rfl rfl) rfl rfl ?_
                    refine XR_a (op_move rfl) rfl rfl ?_
                    refine XR_if 106 rfl (fun h => ?_) (fun h => ?_)
                    · have h106 := h
                      refine XR_a (op_move rfl) rfl rfl ?_
                      refine XR_a (op_move rfl) rfl rfl ?_
                      first | refine XR_a (op_index1 rfl rfl rfl (by omega)) rfl rfl ?_ | refine XR_a (op_index rfl rfl rfl (by omega)) rfl rfl ?_
                      refine XR_a (op_ld (hBk) rfl rfl rfl) rfl rfl ?_
                      refine XR_a (op_move rfl) rfl rfl ?_
                      refine XR_a (op_move rfl) rfl rfl ?_
                      first | refine XR_a (op_index1 rfl rfl rfl (by omega)) rfl rfl ?_ | refine XR_a (op_index rfl rfl rfl (by omega)) rfl rfl ?_
                      refine XR_a (op_ld (hBi) rfl rfl rfl) rfl rfl ?_
                      have := hmono2 (by omega) (by omega)
                      refine XR_a (op_gtr rfl rfl) rfl rfl ?_
                      refine XR_as (.bool false) (congrArg Value.bool (decide_eq_false (by omega))) ?_
                      refine XR_a (op_pick_t rfl rfl) rfl rfl ?_
                      refine XR_a (op_pick_f rfl rfl) rfl rfl ?_
                      refine XR_nil ?_
                      refine X_else rfl ?_
                      refine X_skip ?_
                      refine X_blk ?_
                      refine X_reg ?_
                      refine XR_a (op_move rfl) rfl rfl ?_
                      first | refine XR_a (op_addN (n := 1) rfl rfl (by simp only [inK]; omega)) rfl rfl ?_ | refine XR_a (op_addI rfl rfl (by simp only [inK]; omega)) rfl rfl ?_ | refine XR_a (op_add rfl rfl) rfl rfl ?_
                      refine XR_a (op_assign rfl) rfl rfl ?_
                      refine XR_nil ?_
                      exact X_again (k + 1) (.cons rfl (.cons rfl (.cons rfl (.cons rfl (.cons rfl (.nil _)))))) ⟨rfl, by omega⟩ (by omega)
                    · refine XR_no rfl rfl ?_
                      refine XR_no rfl rfl ?_
                      refine XR_no rfl rfl ?_
                      refine XR_no rfl rfl ?_
                      refine XR_no rfl rfl ?_
                      refine XR_no rfl rfl ?_
                      refine XR_no rfl rfl ?_
                      refine XR_no rfl rfl ?_
                      refine XR_no rfl rfl ?_
                      refine XR_a (op_pick_f rfl rfl) rfl rfl ?_
                      refine XR_a (op_pick_f rfl rfl) rfl rfl ?_
                      refine XR_nil ?_
                      refine X_else rfl ?_
                      refine X_skip ?_
                      refine X_blk ?_
                      refine X_reg ?_
                      refine XR_a (op_move rfl) rfl rfl ?_
                      first | refine XR_a (op_addN (n := 1) rfl rfl (by simp only [inK]; omega)) rfl rfl ?_ | refine XR_a (op_addI rfl rfl (by simp only [inK]; omega)) rfl rfl ?_ | refine XR_a (op_add rfl rfl) rfl rfl ?_
                      refine XR_a (op_assign rfl) rfl rfl ?_
                      refine XR_nil ?_
                      exact X_again (k + 1) (.cons rfl (.cons rfl (.cons rfl (.cons rfl (.cons rfl (.nil _)))))) ⟨rfl, by omega⟩ (by omega)
                  · refine XR_no rfl rfl ?_
                    refine XR_no rfl rfl ?_
                    refine XR_no rfl rfl ?_
                    refine XR_no rfl rfl ?_
                    refine XR_no rfl rfl ?_
                    refine XR_a (op_pick_f rfl rfl) rfl rfl ?_
                    refine XR_a (op_move rfl) rfl rfl ?_
                    refine XR_no rfl rfl ?_
                    refine XR_no rfl rfl ?_
                    refine XR_no rfl rfl ?_
                    refine XR_no rfl rfl ?_
                    refine XR_no rfl rfl ?_
                    refine XR_no rfl rfl ?_
                    refine XR_no rfl rfl ?_
                    refine XR_no rfl rfl ?_
                    refine XR_no rfl rfl ?_
                    refine XR_a (op_pick_f rfl rfl) rfl rfl ?_
                    refine XR_a (op_pick_f rfl rfl) rfl rfl ?_
                    refine XR_nil ?_
                    refine X_else rfl ?_
                    refine X_skip ?_
                    refine X_blk ?_
                    refine X_reg ?_
                    refine XR_a (op_move rfl) rfl rfl ?_
                    first | refine XR_a (op_addN (n := 1) rfl rfl (by simp only [inK]; omega)) rfl rfl ?_ | refine XR_a (op_addI rfl rfl (by simp only [inK]; omega)) rfl rfl ?_ | refine XR_a (op_add rfl rfl) rfl rfl ?_
                    refine XR_a (op_assign rfl) rfl rfl ?_
                    refine XR_nil ?_
                    exact X_again (k + 1) (.cons rfl (.cons rfl (.cons rfl (.cons rfl (.cons rfl (.nil _)))))) ⟨rfl, by omega⟩ (by omega)
              · refine XR_no rfl rfl ?_
                refine XR_no rfl rfl ?_
                refine XR_no rfl rfl ?_
                refine XR_no rfl rfl ?_
                refine XR_no rfl rfl ?_
                refine XR_a (op_pick_f rfl rfl) rfl rfl ?_
                refine XR_a (op_move rfl) rfl rfl ?_
                refine XR_no rfl rfl ?_
                refine XR_no rfl rfl ?_
                refine XR_no rfl rfl ?_
                refine XR_no rfl rfl ?_
                refine XR_no rfl rfl ?_
                refine XR_no rfl rfl ?_
                refine XR_no rfl rfl ?_
                refine XR_no rfl rfl ?_
                refine XR_no rfl rfl ?_
                refine XR_a (op_pick_f rfl rfl) rfl rfl ?_
                refine XR_a (op_move rfl) rfl rfl ?_
                refine XR_a (op_move rfl) rfl rfl ?_
                refine XR_a (op_move rfl) rfl rfl ?_
                first | refine XR_a (op_index1 rfl rfl rfl (by omega)) rfl rfl ?_ | refine XR_a (op_index rfl rfl rfl (by omega)) rfl rfl ?_
                refine XR_a (op_ld (hAk) rfl rfl rfl) rfl rfl ?_
                refine XR_a (op_move rfl) rfl rfl ?_
                refine XR_a (op_move rfl) rfl rfl ?_
                first | refine XR_a (op_index1 rfl rfl rfl (by omega)) rfl rfl ?_ | refine XR_a (op_index rfl rfl rfl (by omega)) rfl rfl ?_
                refine XR_a (op_ld (hAi) rfl rfl rfl) rfl rfl ?_
                refine XR_a (op_gtr rfl rfl) rfl rfl ?_
                refine XR_a (op_move rfl) rfl rfl ?_
                refine XR_if 99 rfl (fun h => ?_) (fun h => ?_)
                · have h99 := h
                  refine XR_a (op_move rfl) rfl rfl ?_
                  refine XR_a (op_move rfl) rfl rfl ?_
                  first | refine XR_a (op_index1 rfl rfl rfl (by omega)) rfl rfl ?_ | refine XR_a (op_index rfl rfl rfl (by omega)) rfl rfl ?_
                  refine XR_a (op_ld (hAi) rfl rfl rfl) rfl rfl ?_
                  refine XR_a (op_gtr rfl rfl) rfl rfl ?_
                  refine XR_a (op_pick_t rfl rfl) rfl rfl ?_
                  refine XR_a (op_move rfl) rfl rfl ?_
                  refine XR_if 106 rfl (fun h => ?_) (fun h => ?_)
                  · have h106 := h
                    refine XR_a (op_move rfl) rfl rfl ?_
                    refine XR_a (op_move rfl) rfl rfl ?_
                    first | refine XR_a (op_index1 rfl rfl rfl (by omega)) rfl rfl ?_ | refine XR_a (op_index rfl rfl rfl (by omega)) rfl rfl ?_
                    refine XR_a (op_ld (hBk) rfl rfl rfl) rfl rfl ?_
                    refine XR_a (op_move rfl) rfl rfl ?_
                    refine XR_a (op_move rfl) rfl rfl ?_
                    first | refine XR_a (op_index1 rfl rfl rfl (by omega)) rfl rfl ?_ | refine XR_a (op_index rfl rfl rfl (by omega)) rfl rfl ?_
                    refine XR_a (op_ld (hBi) rfl rfl rfl) rfl rfl ?_
                    have := hmono2 (by omega) (by omega)
                    refine XR_a (op_gtr rfl rfl) rfl rfl ?_
                    refine XR_as (.bool false) (congrArg Value.bool (decide_eq_false (by omega))) ?_
                    refine XR_a (op_pick_t rfl rfl) rfl rfl ?_
                    refine XR_a (op_pick_f rfl rfl) rfl rfl ?_
                    refine XR_nil ?_
                    refine X_else rfl ?_
                    refine X_skip ?_
                    refine X_blk ?_
                    refine X_reg ?_
                    refine XR_a (op_move rfl) rfl rfl ?_
                    first | refine XR_a (op_addN (n := 1) rfl rfl (by simp only [inK]; omega)) rfl rfl ?_ | refine XR_a (op_addI rfl rfl (by simp only [inK]; omega)) rfl rfl ?_ | refine XR_a (op_add rfl rfl) rfl rfl ?_
                    refine XR_a (op_assign rfl) rfl rfl ?_
                    refine XR_nil ?_
                    exact X_again (k + 1) (.cons rfl (.cons rfl (.cons rfl (.cons rfl (.cons rfl (.nil _)))))) ⟨rfl, by omega⟩ (by omega)
                  · refine XR_no rfl rfl ?_
                    refine XR_no rfl rfl ?_
                    refine XR_no rfl rfl ?_
                    refine XR_no rfl rfl ?_
                    refine XR_no rfl rfl ?_
                    refine XR_no rfl rfl ?_
                    refine XR_no rfl rfl ?_
                    refine XR_no rfl rfl ?_
                    refine XR_no rfl rfl ?_
                    refine XR_a (op_pick_f rfl rfl) rfl rfl ?_
                    refine XR_a (op_pick_f rfl rfl) rfl rfl ?_
                    refine XR_nil ?_
                    refine X_else rfl ?_
                    refine X_skip ?_
                    refine X_blk ?_
                    refine X_reg ?_
                    refine XR_a (op_move rfl) rfl rfl ?_
                    first | refine XR_a (op_addN (n := 1) rfl rfl (by simp only [inK]; omega)) rfl rfl ?_ | refine XR_a (op_addI rfl rfl (by simp only [inK]; omega)) rfl rfl ?_ | refine XR_a (op_add rfl rfl) rfl rfl ?_
                    refine XR_a (op_assign rfl) rfl rfl ?_
                    refine XR_nil ?_
                    exact X_again (k + 1) (.cons rfl (.cons rfl (.cons rfl (.cons rfl (.cons rfl (.nil _)))))) ⟨rfl, by omega⟩ (by omega)
                · refine XR_no rfl rfl ?_
                  refine XR_no rfl rfl ?_
                  refine XR_no rfl rfl ?_
                  refine XR_no rfl rfl ?_
                  refine XR_no rfl rfl ?_
                  refine XR_a (op_pick_f rfl rfl) rfl rfl ?_
                  refine XR_a (op_move rfl) rfl rfl ?_
                  refine XR_no rfl rfl ?_
                  refine XR_no rfl rfl ?_
                  refine XR_no rfl rfl ?_
                  refine XR_no rfl rfl ?_
                  refine XR_no rfl rfl ?_
                  refine XR_no rfl rfl ?_
                  refine XR_no rfl rfl ?_
                  refine XR_no rfl rfl ?_
                  refine XR_no rfl rfl ?_
                  refine XR_a (op_pick_f rfl rfl) rfl rfl ?_
                  refine XR_a (op_pick_f rfl rfl) rfl rfl ?_
                  refine XR_nil ?_
                  refine X_else rfl ?_
                  refine X_skip ?_
                  refine X_blk ?_
                  refine X_reg ?_
                  refine XR_a (op_move rfl) rfl rfl ?_
                  first | refine XR_a (op_addN (n := 1) rfl rfl (by simp only [inK]; omega)) rfl rfl ?_ | refine XR_a (op_addI rfl rfl (by simp only [inK]; omega)) rfl rfl ?_ | refine XR_a (op_add rfl rfl) rfl rfl ?_
                  refine XR_a (op_assign rfl) rfl rfl ?_
                  refine XR_nil ?_
                  exact X_again (k + 1) (.cons rfl (.cons rfl (.cons rfl (.cons rfl (.cons rfl (.nil _)))))) ⟨rfl, by omega⟩ (by omega)
            · refine X_exit rfl ?_
              refine X_blk ?_
              refine X_reg ?_
              refine XR_a (op_move rfl) rfl rfl ?_
              first | refine XR_a (op_addN (n := 1) rfl rfl (by simp only [inK]; omega)) rfl rfl ?_ | refine XR_a (op_addI rfl rfl (by simp only [inK]; omega)) rfl rfl ?_ | refine XR_a (op_add rfl rfl) rfl rfl ?_
              refine XR_a (op_assign rfl) rfl rfl ?_
              refine XR_nil ?_
              exact X_again (i + 1) (.cons rfl (.cons rfl (.cons (by rw [hm2]; rfl) (.cons rfl (.nil _))))) ⟨rfl, by omega⟩ (by omega)
        · obtain rfl : i = n := by omega
          have hfe : (fltTo ws i).length = (syms ws).length := by
            rw [(syms_spec ws).1.length_eq]; unfold fltTo flt; rw [hlw]
          have hrdI := hrd3
          rw [nV_iV] at hrdI
          have hb15 : boundedB 15 ((lensW ws).map fun n : Nat => (n : Int)) := by
            refine ⟨by rw [List.length_map, lensW_length]; omega, fun x hx => ?_⟩
            obtain ⟨y, hy, rfl⟩ := List.mem_map.1 hx
            have := lensW_le ws y hy; omega
          have hto : ((lensW ws).map fun n : Nat => (n : Int)).map Int.toNat = lensW ws := by
            rw [List.map_map]
            conv => rhs; rw [← List.map_id (lensW ws)]
            exact List.map_congr_left fun x _ => by simp
          refine X_exit rfl ?_
          refine X_seq ?_
          refine X_reg ?_
          refine XR_a (op_move rfl) rfl rfl ?_
          refine XR_wa (opl_call (wfull_spec hrdI (by rw [List.length_map, lensW_length]; exact hlw) hb15) rfl (by kernel_rfl)) rfl rfl rfl ?_
          rintro _ hp3 ⟨rfl, hx3⟩
          rw [hto]
          refine XR_a (op_move rfl) rfl rfl ?_
          refine XR_a (op_gtr rfl rfl) rfl rfl ?_
          refine XR_a (op_eqlB rfl rfl rfl) rfl rfl ?_
          refine XR_as (.bool true) (congrArg Value.bool (decide_eq_true (decide_eq_decide.2 (by rw [full_iff (by omega), hfe]; omega)))) ?_
          refine XR_a (op_move rfl) rfl rfl ?_
          refine XR_wa (opl_call (lives07 _) rfl (by kernel_rfl)) rfl rfl rfl ?_
          rintro _ hp4 ⟨rfl, hx4⟩
          refine XR_a (op_pick_t rfl rfl) rfl rfl ?_
          refine XR_a (op_assign rfl) rfl rfl ?_
          refine XR_nil ?_
          refine X_ret (.cons (.tmp rfl) .nil) ?_
          exact ⟨rfl, Ext.trans (Ext.trans st.low hx3) hx4⟩
  · refine XR_nil ?_
    refine X_seq ?_
    refine X_reg ?_
    refine XR_a (op_move rfl) rfl rfl ?_
    refine XR_wa (opl_call (lengths_spec hr hl hn) rfl (by kernel_rfl)) rfl rfl rfl ?_
    rintro _ hp1 ⟨w, rfl, st⟩
    refine XR_a (op_move rfl) rfl rfl ?_
    refine XR_a (op_extract rfl rfl) rfl rfl ?_
    refine XR_a (op_extract rfl rfl) rfl rfl ?_
    refine XR_a (op_assign rfl) rfl rfl ?_
    refine XR_a (op_assign rfl) rfl rfl ?_
    refine XR_nil ?_
    refine X_seq ?_
    refine X_seq ?_
    refine X_reg ?_
    refine XR_a (op_move rfl) rfl rfl ?_
    refine XR_a (op_neq rfl rfl) rfl rfl ?_
    refine XR_as (.bool true) (congrArg Value.bool (decide_eq_true fun hh => hR (errW_zero.1 hh))) ?_
    refine XR_a (op_move rfl) rfl rfl ?_
    refine XR_no rfl rfl ?_
    refine XR_no rfl rfl ?_
    refine XR_no rfl rfl ?_
    refine XR_a (op_pick_t rfl rfl) rfl rfl ?_
    refine XR_nil ?_
    refine X_then rfl ?_
    refine X_seq ?_
    refine X_reg ?_
    refine XR_wa (opl_call (lives07 _) rfl (by kernel_rfl)) rfl rfl rfl ?_
    rintro _ hp2 ⟨rfl, hx2⟩
    refine XR_a (op_assign rfl) rfl rfl ?_
    refine XR_nil ?_
    refine X_ret (.cons (.tmp rfl) .nil) ?_
    exact ⟨rfl, Ext.trans st.low hx2⟩
end Go.Bn
