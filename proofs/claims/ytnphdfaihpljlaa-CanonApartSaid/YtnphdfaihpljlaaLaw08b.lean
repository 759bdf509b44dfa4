/- The law CanonPuts. -/
import Derived.Test.YtnphdfaihpljlaaLaw08
set_option linter.unusedVariables false
set_option linter.unusedSimpArgs false
set_option maxHeartbeats 4000000
set_option maxRecDepth 20000
namespace Go.Bn
open Go Proofs

def putBits (ls : List Nat) (s : Int) : List Bool := codeBits (val ls s.toNat) (lenAt ls s)
theorem putBits_len {ls : List Nat} (hok : lensOK ls) (s : Int) : (putBits ls s).length ≤ 15 := by
  unfold putBits; rw [codeBits_length]; exact lens_le hok s

theorem canonPuts_ret {n c n2 c2 : Nat} {A A2 : Option Addr} {li si : List Int} {h0 : Heap} (hr : Rd h0 A (li.map iV)) (hl : li.length = n) (hn : n ≤ 17592186044416) (hrs : Rd h0 A2 (si.map iV)) (hls : si.length = n2) :
    Ret Try.prog 4 [.slice A n c, .slice A2 n2 c2] h0 fun v h' => v = .bool true ∧ Ext h0 h' := by
  refine ret_of_X Try.func4 rfl rfl fun w0 hw0 => ?_
  simp only [argE, Nat.zero_add, Nat.reduceAdd]
  refine X_seq ?_
  refine X_reg ?_
  refine XR_a (op_assign rfl) rfl rfl ?_
  by_cases hR : rightC li
  · refine XR_nil ?_
    refine X_seq ?_
    refine X_seq ?_
    refine X_reg ?_
    refine XR_a (op_move rfl) rfl rfl ?_
    refine XR_a (op_len rfl rfl rfl) rfl rfl ?_
    refine XR_a (op_gtr rfl rfl) rfl rfl ?_
    refine XR_a (op_move rfl) rfl rfl ?_
    refine XR_if 15 rfl (fun h => ?_) (fun h => ?_)
    · refine XR_no rfl rfl ?_
      refine XR_no rfl rfl ?_
      refine XR_no rfl rfl ?_
      refine XR_a (op_pick_t rfl rfl) rfl rfl ?_
      refine XR_a (op_move rfl) rfl rfl ?_
      refine XR_no rfl rfl ?_
      refine XR_no rfl rfl ?_
      refine XR_no rfl rfl ?_
      refine XR_a (op_pick_t rfl rfl) rfl rfl ?_
      refine XR_nil ?_
      refine X_then rfl ?_
      refine X_seq ?_
      refine X_reg ?_
      refine XR_wa (opl_call (lives08 _) rfl (by kernel_rfl)) rfl rfl rfl ?_
      rintro _ hp ⟨rfl, hx⟩
      refine XR_a (op_assign rfl) rfl rfl ?_
      refine XR_nil ?_
      refine X_ret (.cons (.tmp rfl) .nil) ?_
      exact ⟨rfl, hx⟩
    · refine XR_a (op_move rfl) rfl rfl ?_
      refine XR_a (op_len rfl rfl rfl) rfl rfl ?_
      refine XR_a (op_gtr rfl rfl) rfl rfl ?_
      refine XR_a (op_pick_f rfl rfl) rfl rfl ?_
      refine XR_a (op_move rfl) rfl rfl ?_
      refine XR_if 20 rfl (fun h => ?_) (fun h => ?_)
      · refine XR_no rfl rfl ?_
        refine XR_no rfl rfl ?_
        refine XR_no rfl rfl ?_
        refine XR_a (op_pick_t rfl rfl) rfl rfl ?_
        refine XR_nil ?_
        refine X_then rfl ?_
        refine X_seq ?_
        refine X_reg ?_
        refine XR_wa (opl_call (lives08 _) rfl (by kernel_rfl)) rfl rfl rfl ?_
        rintro _ hp ⟨rfl, hx⟩
        refine XR_a (op_assign rfl) rfl rfl ?_
        refine XR_nil ?_
        refine X_ret (.cons (.tmp rfl) .nil) ?_
        exact ⟨rfl, hx⟩
      · refine XR_a (op_move rfl) rfl rfl ?_
        refine XR_wa (opl_call (right08_ref hr hl hn) rfl (by kernel_rfl)) rfl rfl rfl ?_
        rintro _ hp ⟨rfl, rfl⟩
        rw [decide_eq_true hR]
        refine XR_a (op_not rfl) rfl rfl ?_
        refine XR_a (op_pick_f rfl rfl) rfl rfl ?_
        refine XR_nil ?_
        refine X_else rfl ?_
        refine X_skip ?_
        refine X_seq ?_
        refine X_reg ?_
        refine XR_a (op_move rfl) rfl rfl ?_
        refine XR_wa (opl_call (cnew_spec hr hl hn) rfl (by kernel_rfl)) rfl rfl rfl ?_
        rintro _ hp2 ⟨w2, rfl, hx2, hy2, _⟩
        obtain ⟨p, rfl, st⟩ := hy2 hR
        rw [errC_pos hR]
        have hok := hR.ok
        have hr2 : Rd h0 A ((li.map Int.toNat).map nV) := by rw [← bounded_nat hR.2.1]; exact hr
        have hl2 : (li.map Int.toNat).length = n := by rw [List.length_map]; exact hl
        obtain ⟨ls, hl3⟩ : ∃ ls, li.map Int.toNat = ls := ⟨_, rfl⟩
        rw [hl3] at hok hr2 hl2 st
        have h320 := hok.2.1
        have h1n := hok.1
        refine XR_a (op_move rfl) rfl rfl ?_
        refine XR_a (op_extract rfl rfl) rfl rfl ?_
        refine XR_a (op_extract rfl rfl) rfl rfl ?_
        refine XR_a (op_assign rfl) rfl rfl ?_
        refine XR_a (op_assign rfl) rfl rfl ?_
        refine XR_nil ?_
        refine X_seq ?_
        refine X_reg ?_
        refine XR_a (op_move rfl) rfl rfl ?_
        refine XR_wa (opl_call (values08_ref (hr2.ext st.low) hl2 hok) rfl (by kernel_rfl)) rfl rfl rfl ?_
        rintro w2 hp2 st2
        replace st := st.join st2
        simp only [List.cons_append, List.nil_append] at st
        refine XR_a (op_assign rfl) rfl rfl ?_
        refine XR_nil ?_
        refine X_seq ?_
        refine X_reg ?_
        refine XR_wa (opl_new rfl) rfl rfl rfl ?_
        rintro _ hp ⟨q, rfl, hnew⟩
        replace st := (st.new hnew).wr0
        refine XR_nil ?_
        refine X_seq ?_
        refine X_reg ?_
        refine XR_a (op_assign rfl) rfl rfl ?_
        refine XR_nil ?_
        refine X_seq ?_
        refine X_seq ?_
        refine X_reg ?_
        refine XR_a (op_assign rfl) rfl rfl ?_
        refine XR_nil ?_
        refine X_block ?_
        replace st := (st.nilrow 5 1).re 4 [1, 3, 2, 0] (by decide)
        simp only [List.map_cons, List.map_nil, getR] at st
        obtain ⟨g, o, rfl, hc⟩ := hr2.at_ (by rw [List.length_map]; omega)
        refine X_loop (fun s => n2 - s.1) (fun s => [(0, .slice (some ⟨g, o, none⟩) n c), (1, .slice A2 n2 c2), (5, .pointer (some ⟨p, 0, none⟩)), (7, w2), (8, .pointer (some ⟨q, 0, none⟩)), (9, s.2.2), (10, .int .i64 (s.1 : Nat))])
          (fun (s : Nat × List Bool × Value) hp => St h0.size h0 hp [wrR q s.2.1, codeR p ls, row 3 1 w2 ((vals ls).map nV), row 5 1 s.2.2 ((b01 s.2.1).map byteV)] ∧ s.1 ≤ n2 ∧ s.2.1.length ≤ 15 * s.1)
          (0, [], _) (.cons rfl (.cons rfl (.cons rfl (.cons rfl (.cons rfl (.cons rfl (.cons rfl (.nil _)))))))) ⟨st, by simp, by simp⟩ ?_
        clear st st2 hnew
        rintro ⟨i, bs, w⟩ hp ⟨st, hi, hb⟩
        simp only at st hi hb ⊢
        refine X_seq ?_
        refine X_seq ?_
        refine X_reg ?_
        refine XR_a (op_move rfl) rfl rfl ?_
        refine XR_a (op_move rfl) rfl rfl ?_
        refine XR_a (op_len rfl rfl rfl) rfl rfl ?_
        refine XR_a (op_lss rfl rfl) rfl rfl ?_
        refine XR_nil ?_
        refine X_if rfl (fun h => ?_) (fun h => ?_)
        · have hlt : i < si.length := by omega
          obtain ⟨g2, o2, rfl, hc2⟩ := hrs.at_ (by rw [List.length_map]; omega)
          have hci := hc2 i (iV si[i]) (by simp [hlt])
          obtain ⟨s, hs⟩ : ∃ s, si[i] = s := ⟨_, rfl⟩
          rw [hs] at hci
          have h15 := lens_le hok s
          refine X_skip ?_
          refine X_seq ?_
          refine X_block ?_
          refine X_seq ?_
          refine X_reg ?_
          refine XR_a (op_move rfl) rfl rfl ?_
          refine XR_a (op_move rfl) rfl rfl ?_
          first | refine XR_a (op_index1 rfl rfl rfl (by omega)) rfl rfl ?_ | refine XR_a (op_index rfl rfl rfl (by omega)) rfl rfl ?_
          refine XR_a (op_ld (cellH_ext (a := ⟨g2, o2 + i, none⟩) st.low hci) rfl rfl rfl) rfl rfl ?_
          refine XR_a (op_geq rfl rfl) rfl rfl ?_
          refine XR_a (op_move rfl) rfl rfl ?_
          refine XR_if 44 rfl (fun h => ?_) (fun h => ?_)
          · refine XR_a (op_move rfl) rfl rfl ?_
            refine XR_a (op_move rfl) rfl rfl ?_
            first | refine XR_a (op_index1 rfl rfl rfl (by omega)) rfl rfl ?_ | refine XR_a (op_index rfl rfl rfl (by omega)) rfl rfl ?_
            refine XR_a (op_ld (cellH_ext (a := ⟨g2, o2 + i, none⟩) st.low hci) rfl rfl rfl) rfl rfl ?_
            refine XR_a (op_move rfl) rfl rfl ?_
            refine XR_a (op_len rfl rfl rfl) rfl rfl ?_
            refine XR_a (op_lss rfl rfl) rfl rfl ?_
            refine XR_a (op_pick_t rfl rfl) rfl rfl ?_
            refine XR_a (op_move rfl) rfl rfl ?_
            refine XR_if 53 rfl (fun h => ?_) (fun h => ?_)
            · refine XR_a (op_move rfl) rfl rfl ?_
              refine XR_a (op_move rfl) rfl rfl ?_
              refine XR_a (op_move rfl) rfl rfl ?_
              first | refine XR_a (op_index1 rfl rfl rfl (by omega)) rfl rfl ?_ | refine XR_a (op_index rfl rfl rfl (by omega)) rfl rfl ?_
              refine XR_a (op_ld (cellH_ext (a := ⟨g2, o2 + i, none⟩) st.low hci) rfl rfl rfl) rfl rfl ?_
              obtain ⟨t, rfl⟩ : ∃ t : Nat, s = t := ⟨s.toNat, by omega⟩
              have ht : t < ls.length := by omega
              have hla := lenAt_nat ht
              refine XR_a (op_index1 (i := t) rfl rfl rfl (by omega)) rfl rfl ?_
              refine XR_a (op_ld (cellH_ext (a := ⟨g, o + t, none⟩) st.low (hc t (nV ls[t]) (by simp [ht]))) rfl rfl rfl) rfl rfl ?_
              refine XR_a (op_gtr rfl rfl) rfl rfl ?_
              refine XR_as (.bool (decide (lenAt ls (t : Int) ≠ 0))) (congrArg Value.bool (decide_eq_decide.2 (by rw [hla]; omega))) ?_
              refine XR_a (op_pick_t rfl rfl) rfl rfl ?_
              refine XR_a (op_assign rfl) rfl rfl ?_
              refine XR_nil ?_
              refine X_seq ?_
              refine X_seq ?_
              refine X_reg ?_
              refine XR_a (op_move rfl) rfl rfl ?_
              refine XR_a (op_move rfl) rfl rfl ?_
              refine XR_a (op_move rfl) rfl rfl ?_
              first | refine XR_a (op_index1 rfl rfl rfl (by omega)) rfl rfl ?_ | refine XR_a (op_index rfl rfl rfl (by omega)) rfl rfl ?_
              refine XR_a (op_ld (cellH_ext (a := ⟨g2, o2 + i, none⟩) st.low hci) rfl rfl rfl) rfl rfl ?_
              refine XR_wa (opl_call (cput_spec st.here hok (by omega)) rfl (by kernel_rfl)) rfl rfl rfl ?_
              rintro _ hp ⟨rfl, st2⟩
              replace st := st.trans st2
              refine XR_a (op_move rfl) rfl rfl ?_
              refine XR_a (op_neqB rfl rfl rfl) rfl rfl ?_
              refine XR_as (.bool false) (by simp) ?_
              refine XR_nil ?_
              refine X_else rfl ?_
              refine X_skip ?_
              refine X_seq ?_
              refine X_reg ?_
              refine XR_a (op_move rfl) rfl rfl ?_
              refine XR_nil ?_
              refine X_if rfl (fun h => ?_) (fun h => ?_)
              · have hv := val_lt hok ht (by omega)
                have hv2 := fst_bd hok (n := ls[t]) (by omega)
                rw [Int.toNat_natCast] at st
                have hvl : (vals ls)[t]? = some (val ls t) := by simp [vals, ht]
                obtain ⟨A7, n7, c7, rfl, hlen7, _, _, hrd7⟩ := st.row 2 rfl
                obtain ⟨g7, o7, rfl, hc7⟩ := hrd7.at_ (by rw [List.length_map, vals_length]; omega)
                rw [List.length_map, vals_length] at hlen7
                have hcl := codeBits_length (lenAt ls (t : Int)) (val ls t)
                refine X_draw (butAt [(15, .grow)]) (by kernel_rfl) (by kernel_rfl) ?_
                refine XR_a (op_move rfl) rfl rfl ?_
                refine XR_a (op_move rfl) rfl rfl ?_
                refine XR_a (op_move rfl) rfl rfl ?_
                refine XR_a (op_move rfl) rfl rfl ?_
                first | refine XR_a (op_index1 rfl rfl rfl (by omega)) rfl rfl ?_ | refine XR_a (op_index rfl rfl rfl (by omega)) rfl rfl ?_
                refine XR_a (op_ld (cellH_ext (a := ⟨g2, o2 + i, none⟩) st.low hci) rfl rfl rfl) rfl rfl ?_
                first | refine XR_a (op_index1 rfl rfl rfl (by omega)) rfl rfl ?_ | refine XR_a (op_index rfl rfl rfl (by omega)) rfl rfl ?_
                refine XR_a (op_ld (hc7 t _ (map_get_nV hvl)) rfl rfl rfl) rfl rfl ?_
                refine XR_a (op_move rfl) rfl rfl ?_
                refine XR_a (op_move rfl) rfl rfl ?_
                refine XR_a (op_move rfl) rfl rfl ?_
                first | refine XR_a (op_index1 rfl rfl rfl (by omega)) rfl rfl ?_ | refine XR_a (op_index rfl rfl rfl (by omega)) rfl rfl ?_
                refine XR_a (op_ld (cellH_ext (a := ⟨g2, o2 + i, none⟩) st.low hci) rfl rfl rfl) rfl rfl ?_
                first | refine XR_a (op_index1 rfl rfl rfl (by omega)) rfl rfl ?_ | refine XR_a (op_index rfl rfl rfl (by omega)) rfl rfl ?_
                refine XR_a (op_ld (cellH_ext (a := ⟨g, o + t, none⟩) st.low (hc t (nV ls[t]) (by simp [ht]))) rfl rfl rfl) rfl rfl ?_
                refine XR_ga (opl_call (bits08_ref (z := val ls t) (n := ls[t]) (by omega) (by omega)) rfl (by kernel_rfl)) rfl rfl rfl (fun _ _ h => h.low) ?_
                rintro v2 hp st2
                obtain ⟨A3, n3, c3, rfl, hlen3, _, _, hrd3⟩ := st2.row 0 rfl
                replace st := st.ext st2.low
                refine XR_wa (opl_append st 3 rfl (hrd3) (hlen3) (one_bytes _) (by simp [b01_length, codeBits_length]; omega) rfl rfl rfl rfl rfl rfl rfl) rfl rfl rfl fun v hp st => ?_
                simp only [List.set_cons_zero, List.set_cons_succ] at st
                rw [← List.map_append, ← b01_append, ← hla] at st
                refine XR_a (op_assign rfl) rfl rfl ?_
                refine XR_nil ?_
                refine X_blk ?_
                refine X_reg ?_
                refine XR_a (op_move rfl) rfl rfl ?_
                first | refine XR_a (op_addN (n := 1) rfl rfl (by simp only [inK]; omega)) rfl rfl ?_ | refine XR_a (op_addI rfl rfl (by simp only [inK]; omega)) rfl rfl ?_ | refine XR_a (op_add rfl rfl) rfl rfl ?_
                refine XR_a (op_assign rfl) rfl rfl ?_
                refine XR_nil ?_
                exact X_again (i + 1, _, _) (.cons rfl (.cons rfl (.cons rfl (.cons rfl (.cons rfl (.cons rfl (.cons rfl (.nil _)))))))) ⟨st, by simp only; omega, by simp only; rw [List.length_append, hcl]; omega⟩ (by simp only; omega)
              · have hz : lenAt ls (t : Int) = 0 := by omega
                rw [hz, codeBits, List.append_nil] at st
                refine X_skip ?_
                refine X_blk ?_
                refine X_reg ?_
                refine XR_a (op_move rfl) rfl rfl ?_
                first | refine XR_a (op_addN (n := 1) rfl rfl (by simp only [inK]; omega)) rfl rfl ?_ | refine XR_a (op_addI rfl rfl (by simp only [inK]; omega)) rfl rfl ?_ | refine XR_a (op_add rfl rfl) rfl rfl ?_
                refine XR_a (op_assign rfl) rfl rfl ?_
                refine XR_nil ?_
                exact X_again (i + 1, bs, _) (.cons rfl (.cons rfl (.cons rfl (.cons rfl (.cons rfl (.cons rfl (.cons rfl (.nil _)))))))) ⟨st, by simp only; omega, by simp only; omega⟩ (by simp only; omega)
            · refine XR_no rfl rfl ?_
              refine XR_no rfl rfl ?_
              refine XR_no rfl rfl ?_
              refine XR_no rfl rfl ?_
              refine XR_no rfl rfl ?_
              refine XR_no rfl rfl ?_
              refine XR_no rfl rfl ?_
              refine XR_no rfl rfl ?_
              refine XR_a (op_pick_f rfl rfl) rfl rfl ?_
              refine XR_a (op_assign rfl) rfl rfl ?_
              refine XR_nil ?_
              refine X_seq ?_
              refine X_seq ?_
              refine X_reg ?_
              refine XR_a (op_move rfl) rfl rfl ?_
              refine XR_a (op_move rfl) rfl rfl ?_
              refine XR_a (op_move rfl) rfl rfl ?_
              first | refine XR_a (op_index1 rfl rfl rfl (by omega)) rfl rfl ?_ | refine XR_a (op_index rfl rfl rfl (by omega)) rfl rfl ?_
              refine XR_a (op_ld (cellH_ext (a := ⟨g2, o2 + i, none⟩) st.low hci) rfl rfl rfl) rfl rfl ?_
              refine XR_wa (opl_call (cput_spec st.here hok (by omega)) rfl (by kernel_rfl)) rfl rfl rfl ?_
              rintro _ hp ⟨rfl, st2⟩
              replace st := st.trans st2
              have hz : lenAt ls s = 0 := by
                unfold lenAt
                rw [if_neg (by omega), List.getD, List.getElem?_eq_none (by omega)]; rfl
              rw [hz, codeBits, List.append_nil] at st
              rw [decide_eq_false (by omega)]
              refine XR_a (op_move rfl) rfl rfl ?_
              refine XR_a (op_neqB rfl rfl rfl) rfl rfl ?_
              refine XR_nil ?_
              refine X_else rfl ?_
              refine X_skip ?_
              refine X_seq ?_
              refine X_reg ?_
              refine XR_a (op_move rfl) rfl rfl ?_
              refine XR_nil ?_
              refine X_else rfl ?_
              refine X_skip ?_
              refine X_blk ?_
              refine X_reg ?_
              refine XR_a (op_move rfl) rfl rfl ?_
              first | refine XR_a (op_addN (n := 1) rfl rfl (by simp only [inK]; omega)) rfl rfl ?_ | refine XR_a (op_addI rfl rfl (by simp only [inK]; omega)) rfl rfl ?_ | refine XR_a (op_add rfl rfl) rfl rfl ?_
              refine XR_a (op_assign rfl) rfl rfl ?_
              refine XR_nil ?_
              exact X_again (i + 1, bs, _) (.cons rfl (.cons rfl (.cons rfl (.cons rfl (.cons rfl (.cons rfl (.cons rfl (.nil _)))))))) ⟨st, by simp only; omega, by simp only; omega⟩ (by simp only; omega)
          · refine XR_no rfl rfl ?_
            refine XR_no rfl rfl ?_
            refine XR_no rfl rfl ?_
            refine XR_no rfl rfl ?_
            refine XR_no rfl rfl ?_
            refine XR_no rfl rfl ?_
            refine XR_no rfl rfl ?_
            refine XR_a (op_pick_f rfl rfl) rfl rfl ?_
            refine XR_a (op_move rfl) rfl rfl ?_
            refine XR_no rfl rfl ?_
            refine XR_no rfl rfl ?_
            refine XR_no rfl rfl ?_
            refine XR_no rfl rfl ?_
            refine XR_no rfl rfl ?_
            refine XR_no rfl rfl ?_
            refine XR_no rfl rfl ?_
            refine XR_no rfl rfl ?_
            refine XR_a (op_pick_f rfl rfl) rfl rfl ?_
            refine XR_a (op_assign rfl) rfl rfl ?_
            refine XR_nil ?_
            refine X_seq ?_
            refine X_seq ?_
            refine X_reg ?_
            refine XR_a (op_move rfl) rfl rfl ?_
            refine XR_a (op_move rfl) rfl rfl ?_
            refine XR_a (op_move rfl) rfl rfl ?_
            first | refine XR_a (op_index1 rfl rfl rfl (by omega)) rfl rfl ?_ | refine XR_a (op_index rfl rfl rfl (by omega)) rfl rfl ?_
            refine XR_a (op_ld (cellH_ext (a := ⟨g2, o2 + i, none⟩) st.low hci) rfl rfl rfl) rfl rfl ?_
            refine XR_wa (opl_call (cput_spec st.here hok (by omega)) rfl (by kernel_rfl)) rfl rfl rfl ?_
            rintro _ hp ⟨rfl, st2⟩
            replace st := st.trans st2
            have hz : lenAt ls s = 0 := by
              unfold lenAt
              rw [if_pos (by omega)]
            rw [hz, codeBits, List.append_nil] at st
            rw [decide_eq_false (by omega)]
            refine XR_a (op_move rfl) rfl rfl ?_
            refine XR_a (op_neqB rfl rfl rfl) rfl rfl ?_
            refine XR_nil ?_
            refine X_else rfl ?_
            refine X_skip ?_
            refine X_seq ?_
            refine X_reg ?_
            refine XR_a (op_move rfl) rfl rfl ?_
            refine XR_nil ?_
            refine X_else rfl ?_
            refine X_skip ?_
            refine X_blk ?_
            refine X_reg ?_
            refine XR_a (op_move rfl) rfl rfl ?_
            first | refine XR_a (op_addN (n := 1) rfl rfl (by simp only [inK]; omega)) rfl rfl ?_ | refine XR_a (op_addI rfl rfl (by simp only [inK]; omega)) rfl rfl ?_ | refine XR_a (op_add rfl rfl) rfl rfl ?_
            refine XR_a (op_assign rfl) rfl rfl ?_
            refine XR_nil ?_
            exact X_again (i + 1, bs, _) (.cons rfl (.cons rfl (.cons rfl (.cons rfl (.cons rfl (.cons rfl (.cons rfl (.nil _)))))))) ⟨st, by simp only; omega, by simp only; omega⟩ (by simp only; omega)
        · refine X_exit rfl ?_
          refine X_seq ?_
          obtain ⟨A5, n5, c5, rfl, hlen5, _, _, hrd5⟩ := st.row 3 rfl
          obtain rfl : n5 = bs.length := by rw [List.length_map, b01_length] at hlen5; omega
          refine X_draw_in (butAt [(0, .grow), (5, .grow), (8, .grow)]) [1, 2, 0, 3, 4, 7, 5, 6, 8, 9, 10, 11, 12, 13, 14, 15] (by kernel_rfl) (by kernel_rfl) rfl ?_
          refine XR_a (op_move rfl) rfl rfl ?_
          refine XR_a (op_len rfl rfl rfl) rfl rfl ?_
          refine XR_ga (opl_call (wlen_spec st.here (by omega)) rfl (by kernel_rfl)) rfl rfl rfl (fun _ _ h => h.2 ▸ Low.refl _ _) ?_
          rintro _ _ ⟨rfl, rfl⟩
          refine XR_a (op_eql rfl rfl) rfl rfl ?_
          refine XR_a (op_move rfl) rfl rfl ?_
          refine XR_if 93 rfl (fun h => ?_) (fun h => ?_)
          · refine XR_a (op_move rfl) rfl rfl ?_
            refine XR_ga (opl_call (wbytes_spec st.here (by omega)) rfl (by kernel_rfl)) rfl rfl rfl (fun _ _ h => h.low) ?_
            rintro v3 hp st3
            obtain ⟨A3, n3, c3, rfl, hlen3, _, _, hrd3⟩ := st3.row 0 rfl
            replace st := st.ext st3.low
            refine XR_a (op_str hrd3 rfl (by simpa using hlen3) rfl rfl rfl) rfl rfl ?_
            refine XR_ga (opl_call (pack_ref (st.rdS 3 rfl).2 rfl (by omega)) rfl (by kernel_rfl)) rfl rfl rfl (fun _ _ h => h.low) ?_
            rintro v4 hp st4
            obtain ⟨A4, n4, c4, rfl, hlen4, _, _, hrd4⟩ := st4.row 0 rfl
            replace st := st.ext st4.low
            refine XR_a (op_str hrd4 rfl (by simpa using hlen4) rfl rfl rfl) rfl rfl ?_
            refine XR_a (op_eqlS rfl rfl) rfl rfl ?_
            refine XR_a (op_pick_t rfl rfl) rfl rfl ?_
            refine XR_a (op_move rfl) rfl rfl ?_
            refine XR_if 101 rfl (fun h => ?_) (fun h => ?_)
            · refine XR_wa (opl_call (lives08 _) rfl (by kernel_rfl)) rfl rfl rfl ?_
              rintro _ hp ⟨rfl, hx⟩
              refine XR_a (op_pick_t rfl rfl) rfl rfl ?_
              refine XR_a (op_assign rfl) rfl rfl ?_
              refine XR_nil ?_
              refine X_ret (.cons (.tmp rfl) .nil) ?_
              exact ⟨rfl, Ext.trans st.low hx⟩
            · exact absurd rfl h
          · exact absurd rfl h
  · refine XR_nil ?_
    refine X_seq ?_
    refine X_seq ?_
    refine X_reg ?_
    refine XR_a (op_move rfl) rfl rfl ?_
    refine XR_a (op_len rfl rfl rfl) rfl rfl ?_
    refine XR_a (op_gtr rfl rfl) rfl rfl ?_
    refine XR_a (op_move rfl) rfl rfl ?_
    refine XR_if 15 rfl (fun h => ?_) (fun h => ?_)
    · refine XR_no rfl rfl ?_
      refine XR_no rfl rfl ?_
      refine XR_no rfl rfl ?_
      refine XR_a (op_pick_t rfl rfl) rfl rfl ?_
      refine XR_a (op_move rfl) rfl rfl ?_
      refine XR_no rfl rfl ?_
      refine XR_no rfl rfl ?_
      refine XR_no rfl rfl ?_
      refine XR_a (op_pick_t rfl rfl) rfl rfl ?_
      refine XR_nil ?_
      refine X_then rfl ?_
      refine X_seq ?_
      refine X_reg ?_
      refine XR_wa (opl_call (lives08 _) rfl (by kernel_rfl)) rfl rfl rfl ?_
      rintro _ hp ⟨rfl, hx⟩
      refine XR_a (op_assign rfl) rfl rfl ?_
      refine XR_nil ?_
      refine X_ret (.cons (.tmp rfl) .nil) ?_
      exact ⟨rfl, hx⟩
    · refine XR_a (op_move rfl) rfl rfl ?_
      refine XR_a (op_len rfl rfl rfl) rfl rfl ?_
      refine XR_a (op_gtr rfl rfl) rfl rfl ?_
      refine XR_a (op_pick_f rfl rfl) rfl rfl ?_
      refine XR_a (op_move rfl) rfl rfl ?_
      refine XR_if 20 rfl (fun h => ?_) (fun h => ?_)
      · refine XR_no rfl rfl ?_
        refine XR_no rfl rfl ?_
        refine XR_no rfl rfl ?_
        refine XR_a (op_pick_t rfl rfl) rfl rfl ?_
        refine XR_nil ?_
        refine X_then rfl ?_
        refine X_seq ?_
        refine X_reg ?_
        refine XR_wa (opl_call (lives08 _) rfl (by kernel_rfl)) rfl rfl rfl ?_
        rintro _ hp ⟨rfl, hx⟩
        refine XR_a (op_assign rfl) rfl rfl ?_
        refine XR_nil ?_
        refine X_ret (.cons (.tmp rfl) .nil) ?_
        exact ⟨rfl, hx⟩
      · refine XR_a (op_move rfl) rfl rfl ?_
        refine XR_wa (opl_call (right08_ref hr hl hn) rfl (by kernel_rfl)) rfl rfl rfl ?_
        rintro _ hp ⟨rfl, rfl⟩
        rw [decide_eq_false hR]
        refine XR_a (op_not rfl) rfl rfl ?_
        refine XR_a (op_pick_f rfl rfl) rfl rfl ?_
        refine XR_nil ?_
        refine X_then rfl ?_
        refine X_seq ?_
        refine X_reg ?_
        refine XR_wa (opl_call (lives08 _) rfl (by kernel_rfl)) rfl rfl rfl ?_
        rintro _ hp ⟨rfl, hx⟩
        refine XR_a (op_assign rfl) rfl rfl ?_
        refine XR_nil ?_
        refine X_ret (.cons (.tmp rfl) .nil) ?_
        exact ⟨rfl, hx⟩
end Go.Bn
