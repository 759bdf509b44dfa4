/- a reader, read in any steps, tells what is given -/
import Derived.Test.YtedkglaoablgaaaRows
import Derived.WalkKit
import Derived.Test.YtedkglaoablgaaaPkReaderParts15
section
set_option linter.unusedVariables false
set_option linter.unusedSimpArgs false
set_option maxHeartbeats 4000000
set_option maxRecDepth 20000
namespace Go.Bn
open Go Proofs
theorem readerParts_ret {m c n1 c1 : Nat} {mt size : Int} {A A1 : Option Addr} {l : List UInt8} {ls : List Int} {h0 : Heap} (hr : Rd h0 A (l.map byteV)) (hl : l.length = m) (hmc : m ≤ c) (hr1 : Rd h0 A1 (ls.map iV)) (hl1 : ls.length = n1) (hwf : ∀ z ∈ ls, inK .i64 z) :
    Ret Try.prog 3 [.agg (payC mt size A m c).toArray, .slice A1 n1 c1] h0 fun v h' => v = .bool true ∧ Ext h0 h' := by
  refine ret_of_X Try.func3 rfl rfl fun w0 hw0 => ?_
  simp only [argE, Nat.zero_add, Nat.reduceAdd]
  have st := St.start h0
  refine X_seq ?_
  refine X_reg ?_
  refine XR_wa (opl_bx (cs := payC mt size A m c) rfl rfl) rfl rfl rfl ?_
  rintro _ hp ⟨p2, rfl, hnew⟩
  replace st := st.new hnew
  refine XR_a (op_assign rfl) rfl rfl ?_
  refine XR_nil ?_
  refine X_seq ?_
  refine X_seq ?_
  refine X_reg ?_
  refine XR_a (op_ldA (vs := payC mt size A m c) (st.cells 0 rfl) rfl rfl rfl rfl) rfl rfl ?_
  refine XR_wa (opl_call (great36 _ _ _ _ _ _) rfl (by kernel_rfl)) rfl rfl rfl ?_
  rintro _ hp ⟨rfl, hx⟩
  replace st := st.ext hx
  refine XR_a (op_move rfl) rfl rfl ?_
  refine XR_if 15 rfl (fun h => ?_) (fun h => ?_)
  · refine XR_no rfl rfl ?_
    refine XR_no rfl rfl ?_
    refine XR_no rfl rfl ?_
    refine XR_a (op_pick_t rfl rfl) rfl rfl ?_
    refine XR_nil ?_
    refine X_then rfl ?_
    refine X_seq ?_
    refine X_reg ?_
    refine XR_wa (opl_call (lives36 _) rfl (by kernel_rfl)) rfl rfl rfl ?_
    rintro _ hp ⟨rfl, hx⟩
    refine XR_a (op_assign rfl) rfl rfl ?_
    refine XR_nil ?_
    refine X_ret (.cons (.tmp rfl) .nil) ?_
    exact ⟨rfl, Ext.trans st.low hx⟩
  · refine XR_a (op_move rfl) rfl rfl ?_
    refine XR_a (op_len rfl rfl rfl) rfl rfl ?_
    refine XR_a (op_gtr rfl rfl) rfl rfl ?_
    refine XR_a (op_pick_f rfl rfl) rfl rfl ?_
    refine XR_nil ?_
    refine X_if rfl (fun h => ?_) (fun h => ?_)
    · refine X_seq ?_
      refine X_reg ?_
      refine XR_wa (opl_call (lives36 _) rfl (by kernel_rfl)) rfl rfl rfl ?_
      rintro _ hp ⟨rfl, hx⟩
      refine XR_a (op_assign rfl) rfl rfl ?_
      refine XR_nil ?_
      refine X_ret (.cons (.tmp rfl) .nil) ?_
      exact ⟨rfl, Ext.trans st.low hx⟩
    · refine X_skip ?_
      refine X_seq ?_
      refine X_reg ?_
      first | refine XR_a (op_field0 rfl rfl) rfl rfl ?_ | refine XR_a (op_fieldn rfl rfl) rfl rfl ?_
      refine XR_a (op_ld (st.cell 0 (i := 0) rfl rfl) rfl rfl rfl) rfl rfl ?_
      first | refine XR_a (op_field0 rfl rfl) rfl rfl ?_ | refine XR_a (op_fieldn rfl rfl) rfl rfl ?_
      refine XR_a (op_ld (st.cell 0 (i := 1) rfl rfl) rfl rfl rfl) rfl rfl ?_
      first | refine XR_a (op_field0 rfl rfl) rfl rfl ?_ | refine XR_a (op_fieldn rfl rfl) rfl rfl ?_
      refine XR_a (op_ld (st.cell 0 (i := 2) rfl rfl) rfl rfl rfl) rfl rfl ?_
      refine XR_wa (opl_call (gives_ref2 st.here st.low (fun h' hh => hr.ext hh) hl (by omega) hmc) rfl (by kernel_rfl)) rfl rfl rfl ?_
      rintro _ hp ⟨w, gE, gB, rfl, how, hG, hgn, st2⟩
      replace st := st.trans st2
      clear st2
      refine XR_wa (opl_new rfl) rfl rfl rfl ?_
      rintro _ hp ⟨p5, rfl, hnew⟩
      replace st := st.new hnew
      refine XR_wn (opl_store_whole (us := gC (newE mt l size) w gE) st 0 rfl rfl rfl rfl rfl (gC_one how) rfl) rfl rfl fun _ hq st => ?_
      simp only [List.set_cons_zero, List.set_cons_succ] at st
      refine XR_nil ?_
      refine X_seq ?_
      refine X_reg ?_
      first | refine XR_a (op_field0 rfl rfl) rfl rfl ?_ | refine XR_a (op_fieldn rfl rfl) rfl rfl ?_
      refine XR_a (op_ld (st.cell 2 (i := 0) rfl rfl) rfl rfl rfl) rfl rfl ?_
      first | refine XR_a (op_field0 rfl rfl) rfl rfl ?_ | refine XR_a (op_fieldn rfl rfl) rfl rfl ?_
      refine XR_a (op_ld (st.cell 2 (i := 1) rfl rfl) rfl rfl rfl) rfl rfl ?_
      first | refine XR_a (op_field0 rfl rfl) rfl rfl ?_ | refine XR_a (op_fieldn rfl rfl) rfl rfl ?_
      refine XR_a (op_ld (st.cell 2 (i := 2) rfl rfl) rfl rfl rfl) rfl rfl ?_
      refine XR_wa (opl_call (rdnew_spec st.here (fun h' hh => hr.ext (st.low.trans hh)) hl (by omega) hmc) rfl (by kernel_rfl)) rfl rfl rfl ?_
      rintro _ hp2 ⟨w2, rfl, hbad, hgood⟩
      have hx0 := st.low
      refine XR_a (op_move rfl) rfl rfl ?_
      refine XR_a (op_extract rfl rfl) rfl rfl ?_
      refine XR_a (op_extract rfl rfl) rfl rfl ?_
      refine XR_a (op_assign rfl) rfl rfl ?_
      refine XR_a (op_assign rfl) rfl rfl ?_
      refine XR_nil ?_
      refine X_seq ?_
      refine X_seq ?_
      refine X_reg ?_
      first | refine XR_a (op_field0 rfl rfl) rfl rfl ?_ | refine XR_a (op_fieldn rfl rfl) rfl rfl ?_
      by_cases hN : newE mt l size = 0
      · obtain ⟨pr, S, rfl, hSb, hst⟩ := hgood hN
        have hg := hG hN
        rw [hN] at *
        have st := hst _ _ hg
        clear hbad hgood hst hG hgn
        refine XR_a (op_ld (st.cell 1 (i := 0) rfl rfl) rfl rfl rfl) rfl rfl ?_
        refine XR_a (op_neq rfl rfl) rfl rfl ?_
        refine XR_as (.bool false) (congrArg Value.bool (decide_eq_false (by simp))) ?_
        refine XR_nil ?_
        refine X_else rfl ?_
        refine X_skip ?_
        refine X_seq ?_
        refine X_seq ?_
        refine X_reg ?_
        refine XR_a (op_move rfl) rfl rfl ?_
        refine XR_a (op_neq rfl rfl) rfl rfl ?_
        refine XR_as (.bool false) (congrArg Value.bool (decide_eq_false (by simp))) ?_
        refine XR_a (op_move rfl) rfl rfl ?_
        refine XR_a (op_move rfl) rfl rfl ?_
        refine XR_a (op_ptr_nil rfl rfl rfl) rfl rfl ?_
        refine XR_a (op_pick_f rfl rfl) rfl rfl ?_
        refine XR_nil ?_
        refine X_else rfl ?_
        refine X_skip ?_
        refine X_seq ?_
        refine X_reg ?_
        refine XR_a (op_assign rfl) rfl rfl ?_
        refine XR_nil ?_
        refine X_seq ?_
        refine X_seq ?_
        refine X_reg ?_
        refine XR_a (op_assign rfl) rfl rfl ?_
        refine XR_nil ?_
        refine X_block ?_
        obtain ⟨Ag, ng, cg, rfl, hgl, hgc, hrg⟩ := st.gRes 2 rfl (hx0.trans st.low)
        clear hrg
        have hgl2 : gB.length ≤ 1048576 := by
          obtain ⟨_, _, _, h3, _⟩ := St.rdr st
          have := S.hlim
          omega
        refine X_loop (fun s => n1 - s.2) (fun s => [(1, .slice A1 n1 c1), (5, .pointer (some ⟨p5, 0, none⟩)), (6, .pointer (some ⟨pr, 0, none⟩)), (8, nV s.1), (9, nV s.2)])
          (fun (s : Nat × Nat) hp => s.1 ≤ gB.length ∧ s.2 ≤ n1 ∧ St h0.size hq hp [rdrR S pr gB gE s.1, pt p5 30 (gC 0 (.slice Ag ng cg) gE), gRes h0.size h0 (.slice Ag ng cg) gB, pt p2 24 (payC mt size A m c)])
          (0, 0) (.cons rfl (.cons rfl (.cons rfl (.cons rfl (.cons rfl (.nil _)))))) ⟨Nat.zero_le _, Nat.zero_le _, st⟩ ?_
        clear st
        rintro ⟨told, i⟩ hp ⟨ht, hi, st⟩
        simp only at ht hi st ⊢
        refine X_seq ?_
        refine X_seq ?_
        refine X_reg ?_
        refine XR_a (op_move rfl) rfl rfl ?_
        refine XR_a (op_move rfl) rfl rfl ?_
        refine XR_a (op_len rfl rfl rfl) rfl rfl ?_
        refine XR_a (op_lss rfl rfl) rfl rfl ?_
        refine XR_nil ?_
        refine X_if rfl (fun h => ?_) (fun h => ?_)
        · obtain ⟨gA, oA, rfl, hcA⟩ := hr1.at_ (by rw [List.length_map]; omega)
          have hil : i < ls.length := by omega
          have hci := hcA i (iV ls[i]) (by simp [hil])
          obtain ⟨z, hz⟩ : ∃ z, ls[i] = z := ⟨_, rfl⟩
          have hzw := hwf _ (List.getElem_mem hil)
          rw [hz] at hci hzw
          refine X_skip ?_
          refine X_seq ?_
          refine X_block ?_
          refine X_seq ?_
          refine X_cut (fun (_ : Unit) => [(1, .slice (some ⟨gA, oA, none⟩) n1 c1), (5, .pointer (some ⟨p5, 0, none⟩)), (6, .pointer (some ⟨pr, 0, none⟩)), (8, nV told), (9, nV i)])
            (fun (_ : Unit) hp => St h0.size hq hp [rdrR S pr gB gE told, pt p5 30 (gC 0 (.slice Ag ng cg) gE), gRes h0.size h0 (.slice Ag ng cg) gB, pt p2 24 (payC mt size A m c)]) ?_ ?_
          · refine X_seq ?_
            refine X_draw_two (butAt [(13, .wild), (14, .pure), (15, .pure)]) [0, 2, 1, 3, 4, 5, 6, 7, 8, 9, 11, 12] 10 [13, 14, 15, 16, 17, 18, 19, 20, 21, 22, 23] 13 [14, 15, 10, 16, 17, 18, 19, 20, 21, 22, 23] (by kernel_rfl) (by kernel_rfl) rfl rfl rfl ?_
            refine XR_a (op_move rfl) rfl rfl ?_
            refine XR_a (op_move rfl) rfl rfl ?_
            refine XR_wa (opl_call (rat_rd st) rfl (by kernel_rfl)) rfl rfl rfl ?_
            rintro _ _ ⟨rfl, rfl⟩
            refine XR_a (op_neq rfl rfl) rfl rfl ?_
            refine XR_as (.bool false) (congrArg Value.bool (decide_eq_false (by simp))) ?_
            refine XR_a (op_move rfl) rfl rfl ?_
            refine XR_a (op_move rfl) rfl rfl ?_
            first | refine XR_a (op_remN (n := 3) rfl rfl (by omega)) rfl rfl ?_ | refine XR_a (op_remI rfl rfl (by omega) (by omega)) rfl rfl ?_ | refine XR_a (op_rem rfl rfl (by omega)) rfl rfl ?_
            refine XR_a (op_eql rfl rfl) rfl rfl ?_
            refine XR_a (op_move rfl) rfl rfl ?_
            refine XR_if 72 rfl (fun h => ?_) (fun h => ?_)
            · refine XR_a (op_move rfl) rfl rfl ?_
              refine XR_a (op_move rfl) rfl rfl ?_
              first | refine XR_a (op_field0 rfl rfl) rfl rfl ?_ | refine XR_a (op_fieldn rfl rfl) rfl rfl ?_
              refine XR_nil ?_
              refine X_alt (σ := Unit) (fun _ => [(1, .slice (some ⟨gA, oA, none⟩) n1 c1), (5, .pointer (some ⟨p5, 0, none⟩)), (6, .pointer (some ⟨pr, 0, none⟩)), (8, nV told), (9, nV i), (87, .bool false)])
                (fun _ hp => St h0.size hq hp [rdrR S pr gB gE told, pt p5 30 (gC 0 (.slice Ag ng cg) gE), gRes h0.size h0 (.slice Ag ng cg) gB, pt p2 24 (payC mt size A m c)]) ?_ ?_ ?_
              · refine XR_wa (opl_call (rdone_spec st.here (by rw [hSb]; exact st.low)) rfl (by kernel_rfl)) rfl rfl rfl ?_
                rintro _ hp3 ⟨rfl, st2⟩
                replace st := st.trans st2
                clear st2
                refine XR_a (op_ld (st.cell 1 (i := 1) rfl rfl) rfl rfl rfl) rfl rfl ?_
                refine XR_a (op_len rfl rfl rfl) rfl rfl ?_
                refine XR_a (op_eql rfl rfl) rfl rfl ?_
                refine XR_a (op_move rfl) rfl rfl ?_
                refine XR_if 80 rfl (fun h => ?_) (fun h => ?_)
                · first | refine XR_a (op_field0 rfl rfl) rfl rfl ?_ | refine XR_a (op_fieldn rfl rfl) rfl rfl ?_
                  refine XR_a (op_ld (st.cell 1 (i := 2) rfl rfl) rfl rfl rfl) rfl rfl ?_
                  refine XR_a (op_eql rfl rfl) rfl rfl ?_
                  refine XR_a (op_pick_t rfl rfl) rfl rfl ?_
                  refine XR_a (op_neqB rfl rfl rfl) rfl rfl ?_
                  refine XR_as (.bool false) (congrArg Value.bool (decide_eq_false (not_not_intro (by simp; omega)))) ?_
                  refine XR_a (op_pick_t rfl rfl) rfl rfl ?_
                  refine XR_a (op_pick_f rfl rfl) rfl rfl ?_
                  refine XR_nil ?_
                  exact X_meet () (.cons rfl (.cons rfl (.cons rfl (.cons rfl (.cons rfl (.cons rfl (.nil _))))))) st
                · refine XR_no rfl rfl ?_
                  refine XR_no rfl rfl ?_
                  refine XR_no rfl rfl ?_
                  refine XR_a (op_pick_f rfl rfl) rfl rfl ?_
                  refine XR_a (op_neqB rfl rfl rfl) rfl rfl ?_
                  refine XR_as (.bool false) (congrArg Value.bool (decide_eq_false (not_not_intro (by simp; omega)))) ?_
                  refine XR_a (op_pick_t rfl rfl) rfl rfl ?_
                  refine XR_a (op_pick_f rfl rfl) rfl rfl ?_
                  refine XR_nil ?_
                  exact X_meet () (.cons rfl (.cons rfl (.cons rfl (.cons rfl (.cons rfl (.cons rfl (.nil _))))))) st
              · refine XR_a (op_ld (st.cell 1 (i := 1) rfl rfl) rfl rfl rfl) rfl rfl ?_
                refine XR_a (op_len rfl rfl rfl) rfl rfl ?_
                refine XR_a (op_eql rfl rfl) rfl rfl ?_
                refine XR_wa (opl_call (rdone_spec st.here (by rw [hSb]; exact st.low)) rfl (by kernel_rfl)) rfl rfl rfl ?_
                rintro _ hp3 ⟨rfl, st2⟩
                replace st := st.trans st2
                clear st2
                refine XR_a (op_move rfl) rfl rfl ?_
                refine XR_if 80 rfl (fun h => ?_) (fun h => ?_)
                · first | refine XR_a (op_field0 rfl rfl) rfl rfl ?_ | refine XR_a (op_fieldn rfl rfl) rfl rfl ?_
                  refine XR_a (op_ld (st.cell 1 (i := 2) rfl rfl) rfl rfl rfl) rfl rfl ?_
                  refine XR_a (op_eql rfl rfl) rfl rfl ?_
                  refine XR_a (op_pick_t rfl rfl) rfl rfl ?_
                  refine XR_a (op_neqB rfl rfl rfl) rfl rfl ?_
                  refine XR_as (.bool false) (congrArg Value.bool (decide_eq_false (not_not_intro (by simp; omega)))) ?_
                  refine XR_a (op_pick_t rfl rfl) rfl rfl ?_
                  refine XR_a (op_pick_f rfl rfl) rfl rfl ?_
                  refine XR_nil ?_
                  exact X_meet () (.cons rfl (.cons rfl (.cons rfl (.cons rfl (.cons rfl (.cons rfl (.nil _))))))) st
                · refine XR_no rfl rfl ?_
                  refine XR_no rfl rfl ?_
                  refine XR_no rfl rfl ?_
                  refine XR_a (op_pick_f rfl rfl) rfl rfl ?_
                  refine XR_a (op_neqB rfl rfl rfl) rfl rfl ?_
                  refine XR_as (.bool false) (congrArg Value.bool (decide_eq_false (not_not_intro (by simp; omega)))) ?_
                  refine XR_a (op_pick_t rfl rfl) rfl rfl ?_
                  refine XR_a (op_pick_f rfl rfl) rfl rfl ?_
                  refine XR_nil ?_
                  exact X_meet () (.cons rfl (.cons rfl (.cons rfl (.cons rfl (.cons rfl (.cons rfl (.nil _))))))) st
              rintro ⟨⟩ hp st
              refine X_else rfl ?_
              refine X_skip ?_
              exact X_meet () (.cons rfl (.cons rfl (.cons rfl (.cons rfl (.cons rfl (.nil _)))))) st
            · refine XR_no rfl rfl ?_
              refine XR_no rfl rfl ?_
              refine XR_no rfl rfl ?_
              refine XR_nil ?_
              refine X_alt (σ := Unit) (fun _ => [(1, .slice (some ⟨gA, oA, none⟩) n1 c1), (5, .pointer (some ⟨p5, 0, none⟩)), (6, .pointer (some ⟨pr, 0, none⟩)), (8, nV told), (9, nV i), (87, .bool false)])
                (fun _ hp => St h0.size hq hp [rdrR S pr gB gE told, pt p5 30 (gC 0 (.slice Ag ng cg) gE), gRes h0.size h0 (.slice Ag ng cg) gB, pt p2 24 (payC mt size A m c)]) ?_ ?_ ?_
              · refine XR_no rfl rfl ?_
                refine XR_no rfl rfl ?_
                refine XR_no rfl rfl ?_
                refine XR_no rfl rfl ?_
                refine XR_no rfl rfl ?_
                refine XR_no rfl rfl ?_
                refine XR_no rfl rfl ?_
                refine XR_no rfl rfl ?_
                refine XR_no rfl rfl ?_
                refine XR_no rfl rfl ?_
                refine XR_a (op_pick_f rfl rfl) rfl rfl ?_
                refine XR_a (op_pick_f rfl rfl) rfl rfl ?_
                refine XR_nil ?_
                exact X_meet () (.cons rfl (.cons rfl (.cons rfl (.cons rfl (.cons rfl (.cons rfl (.nil _))))))) st
              · refine XR_no rfl rfl ?_
                refine XR_no rfl rfl ?_
                refine XR_no rfl rfl ?_
                refine XR_no rfl rfl ?_
                refine XR_no rfl rfl ?_
                refine XR_no rfl rfl ?_
                refine XR_no rfl rfl ?_
                refine XR_no rfl rfl ?_
                refine XR_no rfl rfl ?_
                refine XR_no rfl rfl ?_
                refine XR_a (op_pick_f rfl rfl) rfl rfl ?_
                refine XR_a (op_pick_f rfl rfl) rfl rfl ?_
                refine XR_nil ?_
                exact X_meet () (.cons rfl (.cons rfl (.cons rfl (.cons rfl (.cons rfl (.cons rfl (.nil _))))))) st
              rintro ⟨⟩ hp st
              refine X_else rfl ?_
              refine X_skip ?_
              exact X_meet () (.cons rfl (.cons rfl (.cons rfl (.cons rfl (.cons rfl (.nil _)))))) st
          rintro ⟨⟩ hp st
          refine X_seq ?_
          refine X_reg ?_
          refine XR_a (op_move rfl) rfl rfl ?_
          refine XR_a (op_move rfl) rfl rfl ?_
          refine XR_a (op_move rfl) rfl rfl ?_
          first | refine XR_a (op_index1 rfl rfl rfl (by omega)) rfl rfl ?_ | refine XR_a (op_index rfl rfl rfl (by omega)) rfl rfl ?_
          refine XR_a (op_ld ((cellH_ext (a := ⟨gA, oA + i, none⟩) (hx0.trans st.low) hci)) rfl rfl rfl) rfl rfl ?_
          refine XR_wa (opl_call (rnext_spec st.here (by rw [hSb]; exact st.low) hzw) rfl (by kernel_rfl)) rfl rfl rfl ?_
          rintro _ hp4 ⟨w4, rfl, st2⟩
          replace st := st.trans st2
          clear st2
          obtain ⟨K, hK⟩ : ∃ K, nextK gB told z = K := ⟨_, rfl⟩
          obtain ⟨X, hX⟩ : ∃ X, nextE gB gE told z = X := ⟨_, rfl⟩
          rw [hK] at st
          rw [hX]
          unfold nextK at hK
          unfold nextE at hX
          obtain ⟨A4, n4, c4, rfl, hl4, _, _, hrd4⟩ := st.row 0 rfl
          rw [List.length_map, List.length_take, List.length_drop, Nat.mul_one] at hl4
          refine XR_a (op_move rfl) rfl rfl ?_
          refine XR_a (op_extract rfl rfl) rfl rfl ?_
          refine XR_a (op_extract rfl rfl) rfl rfl ?_
          refine XR_a (op_assign rfl) rfl rfl ?_
          refine XR_a (op_assign rfl) rfl rfl ?_
          refine XR_nil ?_
          refine X_seq ?_
          refine X_reg ?_
          first | refine XR_a (op_field0 rfl rfl) rfl rfl ?_ | refine XR_a (op_fieldn rfl rfl) rfl rfl ?_
          refine XR_a (op_ld (st.cell 2 (i := 1) rfl rfl) rfl rfl rfl) rfl rfl ?_
          refine XR_a (op_len rfl rfl rfl) rfl rfl ?_
          refine XR_a (op_move rfl) rfl rfl ?_
          refine XR_a (op_subI rfl rfl (by simp only [inK]; omega)) rfl rfl ?_
          refine XR_as (nV (gB.length - told)) (congrArg (Value.int .i64) (by omega)) ?_
          refine XR_a (op_assign rfl) rfl rfl ?_
          refine XR_nil ?_
          refine X_seq ?_
          refine X_seq ?_
          refine X_reg ?_
          refine XR_a (op_move rfl) rfl rfl ?_
          refine XR_a (op_move rfl) rfl rfl ?_
          first | refine XR_a (op_index1 rfl rfl rfl (by omega)) rfl rfl ?_ | refine XR_a (op_index rfl rfl rfl (by omega)) rfl rfl ?_
          refine XR_a (op_ld ((cellH_ext (a := ⟨gA, oA + i, none⟩) (hx0.trans st.low) hci)) rfl rfl rfl) rfl rfl ?_
          refine XR_a (op_lss rfl rfl) rfl rfl ?_
          refine XR_nil ?_
          refine X_if rfl (fun h => ?_) (fun h => ?_)
          · rw [if_pos h] at hK hX
            subst hK hX
            refine X_seq ?_
            refine X_seq ?_
            refine X_reg ?_
            refine XR_a (op_move rfl) rfl rfl ?_
            refine XR_a (op_len rfl rfl rfl) rfl rfl ?_
            refine XR_a (op_neq rfl rfl) rfl rfl ?_
            refine XR_as (.bool false) (congrArg Value.bool (decide_eq_false (by omega))) ?_
            refine XR_a (op_move rfl) rfl rfl ?_
            refine XR_a (op_move rfl) rfl rfl ?_
            refine XR_a (op_neq rfl rfl) rfl rfl ?_
            refine XR_as (.bool false) (congrArg Value.bool (decide_eq_false (by omega))) ?_
            refine XR_a (op_pick_f rfl rfl) rfl rfl ?_
            refine XR_nil ?_
            refine X_else rfl ?_
            refine X_skip ?_
            refine X_exit rfl ?_
            refine X_reg ?_
            refine XR_a (op_move rfl) rfl rfl ?_
            first | refine XR_a (op_addN (n := 1) rfl rfl (by simp only [inK]; omega)) rfl rfl ?_ | refine XR_a (op_addI rfl rfl (by simp only [inK]; omega)) rfl rfl ?_ | refine XR_a (op_add rfl rfl) rfl rfl ?_
            refine XR_a (op_assign rfl) rfl rfl ?_
            refine XR_nil ?_
            exact X_again (told, i + 1) (.cons rfl (.cons rfl (.cons rfl (.cons rfl (.cons rfl (.nil _)))))) ⟨by simp only; omega, by simp only; omega, st.tail⟩ (by simp only; omega)
          · rw [if_neg h] at hK hX
            refine X_skip ?_
            refine X_seq ?_
            refine X_seq ?_
            refine X_reg ?_
            refine XR_a (op_move rfl) rfl rfl ?_
            refine XR_a (op_eql rfl rfl) rfl rfl ?_
            refine XR_nil ?_
            refine X_if rfl (fun h => ?_) (fun h => ?_)
            · rw [if_pos (by omega)] at hX
              have hK0 : K = 0 := by omega
              rw [hK0] at st
              refine X_seq ?_
              refine X_seq ?_
              refine X_reg ?_
              refine XR_a (op_move rfl) rfl rfl ?_
              refine XR_a (op_len rfl rfl rfl) rfl rfl ?_
              refine XR_a (op_neq rfl rfl) rfl rfl ?_
              refine XR_as (.bool false) (congrArg Value.bool (decide_eq_false (by omega))) ?_
              refine XR_a (op_move rfl) rfl rfl ?_
              refine XR_a (op_move rfl) rfl rfl ?_
              first | refine XR_a (op_field0 rfl rfl) rfl rfl ?_ | refine XR_a (op_fieldn rfl rfl) rfl rfl ?_
              refine XR_a (op_ld (st.cell 2 (i := 2) rfl rfl) rfl rfl rfl) rfl rfl ?_
              refine XR_a (op_neq rfl rfl) rfl rfl ?_
              refine XR_as (.bool false) (congrArg Value.bool (decide_eq_false (by omega))) ?_
              refine XR_a (op_pick_f rfl rfl) rfl rfl ?_
              refine XR_nil ?_
              refine X_else rfl ?_
              refine X_skip ?_
              refine X_exit rfl ?_
              refine X_reg ?_
              refine XR_a (op_move rfl) rfl rfl ?_
              first | refine XR_a (op_addN (n := 1) rfl rfl (by simp only [inK]; omega)) rfl rfl ?_ | refine XR_a (op_addI rfl rfl (by simp only [inK]; omega)) rfl rfl ?_ | refine XR_a (op_add rfl rfl) rfl rfl ?_
              refine XR_a (op_assign rfl) rfl rfl ?_
              refine XR_nil ?_
              exact X_again (told, i + 1) (.cons rfl (.cons rfl (.cons rfl (.cons rfl (.cons rfl (.nil _)))))) ⟨by simp only; omega, by simp only; omega, st.tail⟩ (by simp only; omega)
            · rw [if_neg (by omega)] at hX
              refine X_skip ?_
              refine X_seq ?_
              refine X_seq ?_
              refine X_reg ?_
              refine XR_a (op_move rfl) rfl rfl ?_
              refine XR_a (op_move rfl) rfl rfl ?_
              first | refine XR_a (op_index1 rfl rfl rfl (by omega)) rfl rfl ?_ | refine XR_a (op_index rfl rfl rfl (by omega)) rfl rfl ?_
              refine XR_a (op_ld ((cellH_ext (a := ⟨gA, oA + i, none⟩) (hx0.trans st.low) hci)) rfl rfl rfl) rfl rfl ?_
              refine XR_a (op_move rfl) rfl rfl ?_
              refine XR_a (op_lss rfl rfl) rfl rfl ?_
              refine XR_nil ?_
              refine X_if rfl (fun h => ?_) (fun h => ?_)
              · refine X_reg ?_
                refine XR_a (op_move rfl) rfl rfl ?_
                refine XR_a (op_move rfl) rfl rfl ?_
                first | refine XR_a (op_index1 rfl rfl rfl (by omega)) rfl rfl ?_ | refine XR_a (op_index rfl rfl rfl (by omega)) rfl rfl ?_
                refine XR_a (op_ld ((cellH_ext (a := ⟨gA, oA + i, none⟩) (hx0.trans st.low) hci)) rfl rfl rfl) rfl rfl ?_
                refine XR_a (op_assign rfl) rfl rfl ?_
                refine XR_nil ?_
                refine X_seq ?_
                refine X_seq ?_
                refine X_draw byKind (by kernel_rfl) (by kernel_rfl) ?_
                refine XR_a (op_move rfl) rfl rfl ?_
                refine XR_a (op_neq rfl rfl) rfl rfl ?_
                refine XR_as (.bool false) (congrArg Value.bool (decide_eq_false (by omega))) ?_
                refine XR_a (op_move rfl) rfl rfl ?_
                refine XR_a (op_move rfl) rfl rfl ?_
                refine XR_a (op_str hrd4 rfl (by rw [List.length_take, List.length_drop]; exact hl4) rfl rfl rfl) rfl rfl ?_
                first | refine XR_a (op_field0 rfl rfl) rfl rfl ?_ | refine XR_a (op_fieldn rfl rfl) rfl rfl ?_
                refine XR_a (op_ld (st.cell 2 (i := 1) rfl rfl) rfl rfl rfl) rfl rfl ?_
                refine XR_a (op_move rfl) rfl rfl ?_
                refine XR_a (op_move rfl) rfl rfl ?_
                refine XR_a (op_move rfl) rfl rfl ?_
                refine XR_a (op_addI rfl rfl (by simp only [inK]; omega)) rfl rfl ?_
                refine XR_as (nV (told + K)) (congrArg (Value.int .i64) (by omega)) ?_
                obtain ⟨_, _, _, hee, _, _, hrg⟩ := st.gRes 3 rfl (hx0.trans st.low)
                obtain ⟨rfl, rfl, rfl⟩ := Value.slice.inj hee
                refine XR_a (op_slice (l := told) (h := told + K) rfl rfl rfl rfl (by omega) (by omega)) rfl rfl ?_
                have hcut := hrg.cut told 1 cg K (by intro hh; simp; omega)
                rw [Nat.mul_one, ← List.map_drop, ← List.map_take] at hcut
                refine XR_a (op_str hcut rfl (by rw [List.length_take, List.length_drop]; omega) rfl rfl rfl) rfl rfl ?_
                refine XR_a (op_neqS rfl rfl) rfl rfl ?_
                refine XR_as (.bool false) (congrArg Value.bool (decide_eq_false (by simp))) ?_
                refine XR_a (op_pick_f rfl rfl) rfl rfl ?_
                refine XR_nil ?_
                refine X_else rfl ?_
                refine X_skip ?_
                refine X_reg ?_
                refine XR_a (op_move rfl) rfl rfl ?_
                refine XR_a (op_move rfl) rfl rfl ?_
                first | refine XR_a (op_addN rfl rfl (by simp only [inK]; omega)) rfl rfl ?_ | refine XR_a (op_addI rfl rfl (by simp only [inK]; omega)) rfl rfl ?_ | refine XR_a (op_add rfl rfl) rfl rfl ?_
                refine XR_a (op_assign rfl) rfl rfl ?_
                refine XR_nil ?_
                refine X_blk ?_
                refine X_reg ?_
                refine XR_a (op_move rfl) rfl rfl ?_
                first | refine XR_a (op_addN (n := 1) rfl rfl (by simp only [inK]; omega)) rfl rfl ?_ | refine XR_a (op_addI rfl rfl (by simp only [inK]; omega)) rfl rfl ?_ | refine XR_a (op_add rfl rfl) rfl rfl ?_
                refine XR_a (op_assign rfl) rfl rfl ?_
                refine XR_nil ?_
                obtain rfl : z = (K : Int) := by omega
                exact X_again (told + K, i + 1) (.cons rfl (.cons rfl (.cons rfl (.cons rfl (.cons rfl (.nil _)))))) ⟨by simp only; omega, by simp only; omega, st.tail⟩ (by simp only; omega)
              · refine X_skip ?_
                refine X_seq ?_
                refine X_seq ?_
                refine X_draw byKind (by kernel_rfl) (by kernel_rfl) ?_
                refine XR_a (op_move rfl) rfl rfl ?_
                refine XR_a (op_neq rfl rfl) rfl rfl ?_
                refine XR_as (.bool false) (congrArg Value.bool (decide_eq_false (by omega))) ?_
                refine XR_a (op_move rfl) rfl rfl ?_
                refine XR_a (op_move rfl) rfl rfl ?_
                refine XR_a (op_str hrd4 rfl (by rw [List.length_take, List.length_drop]; exact hl4) rfl rfl rfl) rfl rfl ?_
                first | refine XR_a (op_field0 rfl rfl) rfl rfl ?_ | refine XR_a (op_fieldn rfl rfl) rfl rfl ?_
                refine XR_a (op_ld (st.cell 2 (i := 1) rfl rfl) rfl rfl rfl) rfl rfl ?_
                refine XR_a (op_move rfl) rfl rfl ?_
                refine XR_a (op_move rfl) rfl rfl ?_
                refine XR_a (op_move rfl) rfl rfl ?_
                refine XR_a (op_addI rfl rfl (by simp only [inK]; omega)) rfl rfl ?_
                refine XR_as (nV (told + K)) (congrArg (Value.int .i64) (by omega)) ?_
                obtain ⟨_, _, _, hee, _, _, hrg⟩ := st.gRes 3 rfl (hx0.trans st.low)
                obtain ⟨rfl, rfl, rfl⟩ := Value.slice.inj hee
                refine XR_a (op_slice (l := told) (h := told + K) rfl rfl rfl rfl (by omega) (by omega)) rfl rfl ?_
                have hcut := hrg.cut told 1 cg K (by intro hh; simp; omega)
                rw [Nat.mul_one, ← List.map_drop, ← List.map_take] at hcut
                refine XR_a (op_str hcut rfl (by rw [List.length_take, List.length_drop]; omega) rfl rfl rfl) rfl rfl ?_
                refine XR_a (op_neqS rfl rfl) rfl rfl ?_
                refine XR_as (.bool false) (congrArg Value.bool (decide_eq_false (by simp))) ?_
                refine XR_a (op_pick_f rfl rfl) rfl rfl ?_
                refine XR_nil ?_
                refine X_else rfl ?_
                refine X_skip ?_
                refine X_reg ?_
                refine XR_a (op_move rfl) rfl rfl ?_
                refine XR_a (op_move rfl) rfl rfl ?_
                first | refine XR_a (op_addN rfl rfl (by simp only [inK]; omega)) rfl rfl ?_ | refine XR_a (op_addI rfl rfl (by simp only [inK]; omega)) rfl rfl ?_ | refine XR_a (op_add rfl rfl) rfl rfl ?_
                refine XR_a (op_assign rfl) rfl rfl ?_
                refine XR_nil ?_
                refine X_blk ?_
                refine X_reg ?_
                refine XR_a (op_move rfl) rfl rfl ?_
                first | refine XR_a (op_addN (n := 1) rfl rfl (by simp only [inK]; omega)) rfl rfl ?_ | refine XR_a (op_addI rfl rfl (by simp only [inK]; omega)) rfl rfl ?_ | refine XR_a (op_add rfl rfl) rfl rfl ?_
                refine XR_a (op_assign rfl) rfl rfl ?_
                refine XR_nil ?_
                obtain rfl : K = gB.length - told := by omega
                exact X_again (told + (gB.length - told), i + 1) (.cons rfl (.cons rfl (.cons rfl (.cons rfl (.cons rfl (.nil _)))))) ⟨by simp only; omega, by simp only; omega, st.tail⟩ (by simp only; omega)
        · refine X_exit rfl ?_
          refine X_seq ?_
          refine X_draw_two (butAt [(9, .wild), (10, .pure), (11, .pure)]) [0, 2, 1, 3, 4, 5, 7, 8] 6 [9, 10, 11, 12, 13, 14, 15, 16, 17, 18, 19, 20, 21, 22] 9 [10, 11, 6, 12, 13, 14, 15, 16, 17, 18, 19, 20, 21, 22] (by kernel_rfl) (by kernel_rfl) rfl rfl rfl ?_
          refine XR_a (op_move rfl) rfl rfl ?_
          refine XR_a (op_move rfl) rfl rfl ?_
          refine XR_wa (opl_call (rat_rd st) rfl (by kernel_rfl)) rfl rfl rfl ?_
          rintro _ _ ⟨rfl, rfl⟩
          refine XR_a (op_eql rfl rfl) rfl rfl ?_
          refine XR_as (.bool true) (congrArg Value.bool (decide_eq_true rfl)) ?_
          refine XR_a (op_move rfl) rfl rfl ?_
          refine XR_a (op_move rfl) rfl rfl ?_
          refine XR_a (op_move rfl) rfl rfl ?_
          first | refine XR_a (op_field0 rfl rfl) rfl rfl ?_ | refine XR_a (op_fieldn rfl rfl) rfl rfl ?_
          refine XR_nil ?_
          refine X_alt (σ := Unit) (fun _ => [(4, .bool true)]) (fun _ hp => St h0.size hq hp [rdrR S pr gB gE told, pt p5 30 (gC 0 (.slice Ag ng cg) gE), gRes h0.size h0 (.slice Ag ng cg) gB, pt p2 24 (payC mt size A m c)]) ?_ ?_ ?_
          · refine XR_wa (opl_call (rdone_spec st.here (by rw [hSb]; exact st.low)) rfl (by kernel_rfl)) rfl rfl rfl ?_
            rintro _ hp3 ⟨rfl, st2⟩
            replace st := st.trans st2
            clear st2
            refine XR_a (op_ld (st.cell 1 (i := 1) rfl rfl) rfl rfl rfl) rfl rfl ?_
            refine XR_a (op_len rfl rfl rfl) rfl rfl ?_
            refine XR_a (op_eql rfl rfl) rfl rfl ?_
            refine XR_a (op_move rfl) rfl rfl ?_
            refine XR_if 165 rfl (fun h => ?_) (fun h => ?_)
            · first | refine XR_a (op_field0 rfl rfl) rfl rfl ?_ | refine XR_a (op_fieldn rfl rfl) rfl rfl ?_
              refine XR_a (op_ld (st.cell 1 (i := 2) rfl rfl) rfl rfl rfl) rfl rfl ?_
              refine XR_a (op_eql rfl rfl) rfl rfl ?_
              refine XR_a (op_pick_t rfl rfl) rfl rfl ?_
              refine XR_a (op_eqlB rfl rfl rfl) rfl rfl ?_
              refine XR_as (.bool true) (congrArg Value.bool (decide_eq_true (by simp; omega))) ?_
              refine XR_a (op_pick_t rfl rfl) rfl rfl ?_
              refine XR_a (op_move rfl) rfl rfl ?_
              refine XR_wa (opl_call (lives36 _) rfl (by kernel_rfl)) rfl rfl rfl ?_
              rintro _ hp ⟨rfl, hx⟩
              replace st := st.ext hx
              refine XR_a (op_pick_t rfl rfl) rfl rfl ?_
              refine XR_a (op_assign rfl) rfl rfl ?_
              refine XR_nil ?_
              exact X_meet () (.cons rfl (.nil _)) st
            · refine XR_no rfl rfl ?_
              refine XR_no rfl rfl ?_
              refine XR_no rfl rfl ?_
              refine XR_a (op_pick_f rfl rfl) rfl rfl ?_
              refine XR_a (op_eqlB rfl rfl rfl) rfl rfl ?_
              refine XR_as (.bool true) (congrArg Value.bool (decide_eq_true (by simp; omega))) ?_
              refine XR_a (op_pick_t rfl rfl) rfl rfl ?_
              refine XR_a (op_move rfl) rfl rfl ?_
              refine XR_wa (opl_call (lives36 _) rfl (by kernel_rfl)) rfl rfl rfl ?_
              rintro _ hp ⟨rfl, hx⟩
              replace st := st.ext hx
              refine XR_a (op_pick_t rfl rfl) rfl rfl ?_
              refine XR_a (op_assign rfl) rfl rfl ?_
              refine XR_nil ?_
              exact X_meet () (.cons rfl (.nil _)) st
          · refine XR_a (op_ld (st.cell 1 (i := 1) rfl rfl) rfl rfl rfl) rfl rfl ?_
            refine XR_a (op_len rfl rfl rfl) rfl rfl ?_
            refine XR_a (op_eql rfl rfl) rfl rfl ?_
            refine XR_wa (opl_call (rdone_spec st.here (by rw [hSb]; exact st.low)) rfl (by kernel_rfl)) rfl rfl rfl ?_
            rintro _ hp3 ⟨rfl, st2⟩
            replace st := st.trans st2
            clear st2
            refine XR_a (op_move rfl) rfl rfl ?_
            refine XR_if 165 rfl (fun h => ?_) (fun h => ?_)
            · first | refine XR_a (op_field0 rfl rfl) rfl rfl ?_ | refine XR_a (op_fieldn rfl rfl) rfl rfl ?_
              refine XR_a (op_ld (st.cell 1 (i := 2) rfl rfl) rfl rfl rfl) rfl rfl ?_
              refine XR_a (op_eql rfl rfl) rfl rfl ?_
              refine XR_a (op_pick_t rfl rfl) rfl rfl ?_
              refine XR_a (op_eqlB rfl rfl rfl) rfl rfl ?_
              refine XR_as (.bool true) (congrArg Value.bool (decide_eq_true (by simp; omega))) ?_
              refine XR_a (op_pick_t rfl rfl) rfl rfl ?_
              refine XR_a (op_move rfl) rfl rfl ?_
              refine XR_wa (opl_call (lives36 _) rfl (by kernel_rfl)) rfl rfl rfl ?_
              rintro _ hp ⟨rfl, hx⟩
              replace st := st.ext hx
              refine XR_a (op_pick_t rfl rfl) rfl rfl ?_
              refine XR_a (op_assign rfl) rfl rfl ?_
              refine XR_nil ?_
              exact X_meet () (.cons rfl (.nil _)) st
            · refine XR_no rfl rfl ?_
              refine XR_no rfl rfl ?_
              refine XR_no rfl rfl ?_
              refine XR_a (op_pick_f rfl rfl) rfl rfl ?_
              refine XR_a (op_eqlB rfl rfl rfl) rfl rfl ?_
              refine XR_as (.bool true) (congrArg Value.bool (decide_eq_true (by simp; omega))) ?_
              refine XR_a (op_pick_t rfl rfl) rfl rfl ?_
              refine XR_a (op_move rfl) rfl rfl ?_
              refine XR_wa (opl_call (lives36 _) rfl (by kernel_rfl)) rfl rfl rfl ?_
              rintro _ hp ⟨rfl, hx⟩
              replace st := st.ext hx
              refine XR_a (op_pick_t rfl rfl) rfl rfl ?_
              refine XR_a (op_assign rfl) rfl rfl ?_
              refine XR_nil ?_
              exact X_meet () (.cons rfl (.nil _)) st
          rintro ⟨⟩ hp st
          refine X_ret (.cons (.tmp rfl) .nil) ?_
          exact ⟨rfl, hx0.trans st.low⟩
      · obtain ⟨rfl, st⟩ := hbad hN
        clear hbad hgood hG hgn
        refine XR_a (op_ld (st.cell 0 (i := 0) rfl rfl) rfl rfl rfl) rfl rfl ?_
        refine XR_a (op_neq rfl rfl) rfl rfl ?_
        refine XR_as (.bool true) (congrArg Value.bool (decide_eq_true (by omega))) ?_
        refine XR_nil ?_
        refine X_then rfl ?_
        refine X_seq ?_
        refine X_reg ?_
        refine XR_a (op_move rfl) rfl rfl ?_
        first | refine XR_a (op_field0 rfl rfl) rfl rfl ?_ | refine XR_a (op_fieldn rfl rfl) rfl rfl ?_
        refine XR_a (op_ld (st.cell 0 (i := 0) rfl rfl) rfl rfl rfl) rfl rfl ?_
        refine XR_a (op_eql rfl rfl) rfl rfl ?_
        refine XR_as (.bool true) (congrArg Value.bool (decide_eq_true rfl)) ?_
        refine XR_a (op_move rfl) rfl rfl ?_
        refine XR_a (op_move rfl) rfl rfl ?_
        refine XR_a (op_ptr_nil rfl rfl rfl) rfl rfl ?_
        refine XR_a (op_pick_t rfl rfl) rfl rfl ?_
        refine XR_a (op_move rfl) rfl rfl ?_
        refine XR_wa (opl_call (lives36 _) rfl (by kernel_rfl)) rfl rfl rfl ?_
        rintro _ hp ⟨rfl, hx⟩
        refine XR_a (op_pick_t rfl rfl) rfl rfl ?_
        refine XR_a (op_assign rfl) rfl rfl ?_
        refine XR_nil ?_
        refine X_ret (.cons (.tmp rfl) .nil) ?_
        exact ⟨rfl, Ext.trans (hx0.trans st.low) hx⟩
end Go.Bn
end

section
set_option linter.unusedVariables false
namespace Go.Proofs.Ytedkglaoablgaaa.readerParts
open Go.ChangeShapes Go.WideShapes Go.ChangeAt Go.RowKit Go.Bn
open Go.ChangeMaps (open_string shut_string)
theorem own : ownKnob Try.prog.godebug = none := by kernel_rfl
theorem laidOut : laidOutB Try.prog = true := by kernel_rfl
set_option maxRecDepth 100000 in
set_option maxHeartbeats 4000000 in
theorem lifted (os : Os) (started : os.Started) (H : Type) (enc : TypeId × Value → H) :
    ReturnsInHanded {} Try.checked os 3 .any (Rows.readerPartsSpec.pre6 enc Try.prog Try.f3 Rows.readerPartsRow.domain false) (Rows.readerPartsSpec.post enc Try.prog Try.f3 false true false false) := by
  refine returnsInHanded_of_change_sized (C := Try.checked) own started (by kernel_rfl) Try.func3
    (ChangeSpec.witness6 (enc := enc) (C := Try.checked) false ⟨#[], #[.agg #[.int .i64 0, .slice none 0 0, .int .i64 0], .slice none 0 0], []⟩ 8 (by kernel_rfl) (by kernel_rfl) (by kernel_rfl) (by kernel_rfl)) ?_
  intro W base args ds gs before hval0 hW hcnd hsz0 _
  have hsz : (DataW.weightsEach Try.prog (Try.f3.params.toList ++ Rows.readerPartsSpec.plain.varTypes Try.prog) (ds ++ gs)).all (· ≤ reachBytes) = true := hsz0
  have hval : ∀ (j : Nat) t v, Try.f3.params[j]? = some t → args[j]? = some v → Value.okWide Try.prog W .any base t v := hval0
  have hW' := hW
  obtain ⟨p, q, hA0, hV, rfl, hfz, hnd⟩ := hW
  have hA : DataW.TrodAll enc Try.prog W 0 (fun _ => true) true Try.f3.params.toList args.toList ds p := hA0
  rw [Try.params3] at hA hval hsz
  obtain ⟨v0, vs0, d0, ds0, p0, q0, hargs, rfl, rfl, h0, r0⟩ := trodAll_cons hA
  obtain ⟨v1, vs1, d1, ds1, p1, q1, rfl, rfl, rfl, h1, r1⟩ := trodAll_cons r0
  obtain ⟨rfl, rfl, rfl⟩ := trodAll_nil r1
  obtain rfl : args = #[v0, v1] := by cases args; simp_all
  obtain ⟨rfl, rfl⟩ := trodVars_none hV
  have k0 := h0
  have lt0 : ∀ x ∈ p0, x.block < W.heap.size := by obtain ⟨m, hm⟩ := k0; exact DataW.trod_lt m _ _ _ hm
  obtain ⟨cs0, rfl, ok0⟩ := arg_agg (ks := [.i .i64, .sl [.i .u8], .i .i64]) 9 Try.underlying24 (by kernel_rfl) (by kernel_rfl) (hval 0 24 v0 rfl rfl) h0
  obtain ⟨u0_0, rr0_0, ee0, s0_0, o0_0⟩ := all2_cons ok0
  obtain ⟨bx_0_0, rfl, in_0_0⟩ := okS_i s0_0
  obtain ⟨u0_1, rr0_1, rfl, s0_1, o0_1⟩ := all2_cons o0_0
  obtain ⟨A_0_1, n_0_1, c_0_1, l_0_1, rfl, hc_0_1, hm_0_1, hl_0_1, r_0_1⟩ := okS_bytes s0_1
  obtain ⟨u0_2, rr0_2, rfl, s0_2, o0_2⟩ := all2_cons o0_1
  obtain ⟨bx_0_2, rfl, in_0_2⟩ := okS_i s0_2
  obtain rfl := all2_nil o0_2
  obtain rfl : cs0 = #[.int .i64 bx_0_0, .slice A_0_1 n_0_1 c_0_1, .int .i64 bx_0_2] := Array.ext' ee0
  obtain ⟨x_0_0, rfl⟩ : ∃ x : Int, x = bx_0_0 := ⟨_, rfl⟩
  obtain ⟨x_0_2, rfl⟩ : ∃ x : Int, x = bx_0_2 := ⟨_, rfl⟩
  obtain ⟨a1, len1, cap1, rfl⟩ := okWide_slice Try.underlying25 (hval 1 25 v1 rfl rfl)
  have k1 := h1
  have lt1 : ∀ x ∈ p1, x.block < W.heap.size := by obtain ⟨m, hm⟩ := k1; exact DataW.trod_lt m _ _ _ hm
  obtain ⟨l_1, hl_1, hc_1, hm_1, r_1, wf_1⟩ := arg_ints Try.underlying25 Try.underlying3 (by kernel_rfl) h1
  have hs_1 := arg_size hsz (j := 1) (t := 25) rfl rfl Try.underlying25 Try.underlying3 (by kernel_rfl) (B := 8) (by kernel_rfl) h1
  clear hA0 hval0 hsz0 hsz
  refine ((readerParts_ret r_0_1 hl_0_1 (by omega) r_1 hl_1 (fun z hz => wf_in (wf_1 z hz))) W rfl).mono fun e W' ⟨v, he, hi, hv, hx⟩ => ?_
  subst he
  subst hv
  have bel : Below W.heap.size W W' := Low.below hi hx
  exact ⟨_, rfl, _, _, _, [], _, [], hW', trodAll_mk1 (shut_bool Try.underlying4 _), (trodAll_cons_mk (Below.trod laidOut (by kernel_rfl) (of_decide_eq_true (by kernel_rfl)) k0 bel lt0) (trodAll_cons_mk (Below.trod laidOut (by kernel_rfl) (of_decide_eq_true (by kernel_rfl)) k1 bel lt1) trodAll_mk0)), rfl, bel.frame _, fun h => by cases h⟩
theorem over : Rows.readerPartsRow.holds Try.pinned (OpenSpec.ofChange Rows.readerPartsSpec) :=
  OpenClaim.holds_of_wide 3 Try.f3 rfl rfl rfl rfl rfl rfl rfl ⟨rfl, rfl, rfl, rfl, rfl⟩ rfl rfl rfl rfl rfl (by kernel_rfl) Try.func3 (by kernel_rfl)
    (of_decide_eq_true (by kernel_rfl)) (by unfold Func.isWrapper; first | (rw [if_pos (by decide +kernel)]; kernel_rfl) | (rw [if_neg (by decide +kernel)]; exact ⟨rfl, rfl⟩))
    (fun os started H enc _ => lifted os started H enc)
end Go.Proofs.Ytedkglaoablgaaa.readerParts
namespace Go.Proofs.Ytedkglaoablgaaa
theorem readerParts_holds : Rows.ReaderPartsSaid := readerParts.over
end Go.Proofs.Ytedkglaoablgaaa
end
