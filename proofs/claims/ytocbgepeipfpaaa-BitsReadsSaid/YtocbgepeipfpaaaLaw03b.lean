/- The laws BitsWrites and BitsBack come to true. -/
import Derived.Test.YtocbgepeipfpaaaBitsQ
import Derived.Test.YtocbgepeipfpaaaLaw03a
import Derived.Test.YtocbgepeipfpaaaFlat
set_option linter.unusedVariables false
set_option linter.unusedSimpArgs false
set_option maxHeartbeats 4000000
namespace Go.Bn
open Go Proofs

theorem bitsWrites_ret {m c al : Nat} {A : Option Addr} {ps : List (Nat × Int)} {h0 : Heap} (hr : Rd h0 A (ps.flatMap pairUI)) (hl : ps.length = m) (hps : ∀ q ∈ ps, q.1 < 4294967296) (hal : al < 4294967296) :
    Ret Try.prog 7 [.slice A m c, .int .u32 (al : Int)] h0 fun v h' => v = .bool true ∧ Ext h0 h' := by
  refine ret_of_X Try.func7 rfl rfl fun w0 hw0 => ?_
  simp only [argE, Nat.zero_add, Nat.reduceAdd]
  refine X_seq ?_
  refine X_reg ?_
  refine XR_a (op_assign rfl) rfl rfl ?_
  refine XR_nil ?_
  refine X_seq ?_
  refine X_seq ?_
  refine X_reg ?_
  refine XR_a (op_move rfl) rfl rfl ?_
  refine XR_a (op_len rfl rfl rfl) rfl rfl ?_
  refine XR_a (op_gtr rfl rfl) rfl rfl ?_
  refine XR_nil ?_
  refine X_if rfl (fun h => ?_) (fun h => ?_)
  · refine X_seq ?_
    refine X_reg ?_
    refine XR_wa (opl_call (lives03 _) rfl (by kernel_rfl)) rfl rfl rfl ?_
    rintro _ hp ⟨rfl, hx⟩
    refine XR_a (op_assign rfl) rfl rfl ?_
    refine XR_nil ?_
    refine X_ret (.cons (.tmp rfl) .nil) ?_
    exact ⟨rfl, hx⟩
  · refine X_skip ?_
    refine X_seq ?_
    refine X_reg ?_
    refine XR_wa (opl_new rfl) rfl rfl rfl ?_
    rintro _ hp ⟨pw, rfl, hnew⟩
    have st := ((St.start h0).new hnew).wr0
    refine XR_nil ?_
    refine X_seq ?_
    refine X_reg ?_
    refine XR_a (op_assign rfl) rfl rfl ?_
    refine XR_nil ?_
    refine X_seq ?_
    refine X_reg ?_
    refine XR_a (op_assign rfl) rfl rfl ?_
    refine XR_nil ?_
    refine X_seq ?_
    refine X_seq ?_
    refine X_reg ?_
    refine XR_a (op_assign rfl) rfl rfl ?_
    refine XR_nil ?_
    refine X_block ?_
    replace st := (st.nilrow 5 1).perm (List.Perm.swap _ _ _)
    refine X_loop (fun s => m - s.1) (fun s => [(0, .slice A m c), (1, .int .u32 (s.2.1 : Nat)), (5, .pointer (some ⟨pw, 0, none⟩)), (6, .pointer none), (7, s.2.2.2), (8, .int .i64 (s.1 : Int))])
      (fun (s : Nat × Nat × List Bool × Value) hp => St h0.size h0 hp [wrR pw s.2.2.1, row 5 1 s.2.2.2 ((b01 s.2.2.1).map byteV)] ∧ s.1 ≤ m ∧ s.2.2.1.length ≤ 39 * s.1 ∧ s.2.1 < 4294967296)
      (0, al, [], _) (.cons rfl (.cons rfl (.cons rfl (.cons rfl (.cons rfl (.cons rfl (.nil _))))))) ⟨st, by simp, by simp, hal⟩ ?_
    clear st hnew hal
    rintro ⟨i, al, bs, v⟩ hp ⟨st, hi, hb, hal⟩
    simp only at st hi hb hal ⊢
    refine X_seq ?_
    refine X_seq ?_
    refine X_reg ?_
    refine XR_a (op_move rfl) rfl rfl ?_
    refine XR_a (op_move rfl) rfl rfl ?_
    refine XR_a (op_len rfl rfl rfl) rfl rfl ?_
    refine XR_a (op_lss rfl rfl) rfl rfl ?_
    refine XR_nil ?_
    refine X_if rfl (fun h => ?_) (fun h => ?_)
    · have hlt : i < ps.length := by omega
      obtain ⟨b, o, rfl, hc⟩ := Rd.flat pairUI 2 hr (fun _ => rfl) (by omega) (by omega)
      have hc0 := hc i hlt 0 _ rfl
      have hc1 := hc i hlt 1 _ rfl
      have hn := hps ps[i] (List.getElem_mem hlt)
      have hw := wd_le 32 ps[i].2
      refine X_skip ?_
      refine X_seq ?_
      refine X_block ?_
      refine X_seq ?_
      refine X_seq ?_
      refine X_reg ?_
      refine XR_a (op_move rfl) rfl rfl ?_
      first | refine XR_a (op_remN (n := 2) rfl rfl (by omega)) rfl rfl ?_ | refine XR_a (op_remI rfl rfl (by omega) (by omega)) rfl rfl ?_ | refine XR_a (op_rem rfl rfl (by omega)) rfl rfl ?_
      refine XR_a (op_eql rfl rfl) rfl rfl ?_
      refine XR_nil ?_
      refine X_if rfl (fun h => ?_) (fun h => ?_)
      · refine X_seq ?_
        refine X_reg ?_
        refine XR_wa (opl_call (walign_spec st.here (by omega)) rfl (by kernel_rfl)) rfl rfl rfl ?_
        rintro _ hp ⟨rfl, st2⟩
        replace st := (st.trans st2).perm (List.Perm.swap _ _ _)
        refine XR_nil ?_
        refine X_seq ?_
        refine X_reg ?_
        refine XR_a (op_move rfl) rfl rfl ?_
        refine XR_wa (opl_call (walign_none _) rfl (by kernel_rfl)) rfl rfl rfl ?_
        rintro _ _ ⟨rfl, rfl⟩
        refine XR_nil ?_
        refine X_reg ?_
        refine XR_a (op_move rfl) rfl rfl ?_
        refine XR_wa (opl_call (fill_ref st.here (by omega)) rfl (by kernel_rfl)) rfl rfl rfl ?_
        rintro v hp st2
        replace st := (st.trans st2).perm (List.Perm.swap _ _ _)
        obtain ⟨bs, hb, st⟩ : ∃ bs : List Bool, bs.length ≤ 39 * i + 7 ∧ St h0.size h0 hp [wrR pw bs, row 5 1 v ((b01 bs).map byteV)] := ⟨_, by rw [List.length_append, List.length_replicate]; omega, st⟩
        refine XR_a (op_assign rfl) rfl rfl ?_
        refine XR_nil ?_
        refine X_seq ?_
        refine X_reg ?_
        refine XR_a (op_move rfl) rfl rfl ?_
        first | refine XR_a (op_quoN (n := 2) rfl rfl (by omega) (by simp only [inK]; omega)) rfl rfl ?_ | refine XR_a (op_quoI rfl rfl (by omega) (by omega) (by simp only [inK]; omega)) rfl rfl ?_ | refine XR_a (op_quo rfl rfl (by omega)) rfl rfl ?_
        refine XR_a (op_assign rfl) rfl rfl ?_
        refine XR_nil ?_
        refine X_seq ?_
        refine X_draw byKind (by kernel_rfl) (by kernel_rfl) ?_
        refine XR_a (op_move rfl) rfl rfl ?_
        refine XR_a (op_move rfl) rfl rfl ?_
        first | refine XR_a (op_index1 rfl rfl rfl (by omega)) rfl rfl ?_ | refine XR_a (op_index rfl rfl rfl (by omega)) rfl rfl ?_
        first | refine XR_a (op_field0 rfl rfl) rfl rfl ?_ | refine XR_a (op_fieldn rfl rfl) rfl rfl ?_
        refine XR_a (op_ld (cellH_ext st.low hc0) rfl rfl rfl) rfl rfl ?_
        refine XR_a (op_move rfl) rfl rfl ?_
        refine XR_a (op_move rfl) rfl rfl ?_
        first | refine XR_a (op_index1 rfl rfl rfl (by omega)) rfl rfl ?_ | refine XR_a (op_index rfl rfl rfl (by omega)) rfl rfl ?_
        first | refine XR_a (op_field0 rfl rfl) rfl rfl ?_ | refine XR_a (op_fieldn rfl rfl) rfl rfl ?_
        refine XR_a (op_ld (cellH_ext st.low hc1) rfl rfl rfl) rfl rfl ?_
        refine XR_wa (opl_call (put_spec st.here hn (by omega)) rfl (by kernel_rfl)) rfl rfl rfl ?_
        rintro _ hp ⟨rfl, st2⟩
        replace st := st.trans st2
        refine XR_nil ?_
        refine X_seq ?_
        refine X_draw byKind (by kernel_rfl) (by kernel_rfl) ?_
        refine XR_a (op_move rfl) rfl rfl ?_
        refine XR_a (op_move rfl) rfl rfl ?_
        refine XR_a (op_move rfl) rfl rfl ?_
        first | refine XR_a (op_index1 rfl rfl rfl (by omega)) rfl rfl ?_ | refine XR_a (op_index rfl rfl rfl (by omega)) rfl rfl ?_
        first | refine XR_a (op_field0 rfl rfl) rfl rfl ?_ | refine XR_a (op_fieldn rfl rfl) rfl rfl ?_
        refine XR_a (op_ld (cellH_ext st.low hc0) rfl rfl rfl) rfl rfl ?_
        refine XR_a (op_move rfl) rfl rfl ?_
        refine XR_a (op_move rfl) rfl rfl ?_
        first | refine XR_a (op_index1 rfl rfl rfl (by omega)) rfl rfl ?_ | refine XR_a (op_index rfl rfl rfl (by omega)) rfl rfl ?_
        first | refine XR_a (op_field0 rfl rfl) rfl rfl ?_ | refine XR_a (op_fieldn rfl rfl) rfl rfl ?_
        refine XR_a (op_ld (cellH_ext st.low hc1) rfl rfl rfl) rfl rfl ?_
        refine XR_wa (opl_call (put_none _ _ _) rfl (by kernel_rfl)) rfl rfl rfl ?_
        rintro _ _ ⟨rfl, rfl⟩
        refine XR_nil ?_
        refine X_seq ?_
        refine X_draw (butAt [(11, .grow)]) (by kernel_rfl) (by kernel_rfl) ?_
        refine XR_a (op_move rfl) rfl rfl ?_
        refine XR_a (op_move rfl) rfl rfl ?_
        refine XR_a (op_move rfl) rfl rfl ?_
        first | refine XR_a (op_index1 rfl rfl rfl (by omega)) rfl rfl ?_ | refine XR_a (op_index rfl rfl rfl (by omega)) rfl rfl ?_
        first | refine XR_a (op_field0 rfl rfl) rfl rfl ?_ | refine XR_a (op_fieldn rfl rfl) rfl rfl ?_
        refine XR_a (op_ld (cellH_ext st.low hc0) rfl rfl rfl) rfl rfl ?_
        refine XR_a (op_move rfl) rfl rfl ?_
        refine XR_a (op_move rfl) rfl rfl ?_
        first | refine XR_a (op_index1 rfl rfl rfl (by omega)) rfl rfl ?_ | refine XR_a (op_index rfl rfl rfl (by omega)) rfl rfl ?_
        first | refine XR_a (op_field0 rfl rfl) rfl rfl ?_ | refine XR_a (op_fieldn rfl rfl) rfl rfl ?_
        refine XR_a (op_ld (cellH_ext st.low hc1) rfl rfl rfl) rfl rfl ?_
        refine XR_ga (opl_call (brow_ref hn) rfl (by kernel_rfl)) rfl rfl rfl (fun _ _ h => h.low) ?_
        rintro v2 hp st2
        obtain ⟨A2, n2, c2, rfl, hlen2, _, _, hrd2⟩ := st2.row 0 rfl
        replace st := st.ext st2.low
        refine XR_wa (opl_append st 1 rfl (hrd2) (hlen2) (one_bytes _) (by simp [b01_length, bitsN_length]; omega) rfl rfl rfl rfl rfl rfl rfl) rfl rfl rfl fun v hp st => ?_
        simp only [List.set_cons_zero, List.set_cons_succ] at st
        rw [← List.map_append, ← b01_append] at st
        obtain ⟨bs, hb, st⟩ : ∃ bs' : List Bool, bs'.length ≤ 39 * (i + 1) ∧ St h0.size h0 hp [wrR pw bs', row 5 1 v ((b01 bs').map byteV)] := ⟨_, by rw [List.length_append, bitsN_length]; omega, st⟩
        refine XR_a (op_assign rfl) rfl rfl ?_
        refine XR_nil ?_
        refine X_seq ?_
        obtain ⟨A5, n5, c5, rfl, hlen5, _, _, hrd5⟩ := st.row 1 rfl
        obtain rfl : n5 = bs.length := by rw [List.length_map, b01_length] at hlen5; omega
        refine X_draw_in (butAt [(0, .grow), (5, .grow), (8, .grow)]) [1, 2, 0, 3, 4, 7, 5, 6, 8, 9, 10, 11] (by kernel_rfl) (by kernel_rfl) rfl ?_
        refine XR_a (op_move rfl) rfl rfl ?_
        refine XR_a (op_len rfl rfl rfl) rfl rfl ?_
        refine XR_ga (opl_call (wlen_spec st.here (by omega)) rfl (by kernel_rfl)) rfl rfl rfl (fun _ _ h => h.2 ▸ Low.refl _ _) ?_
        rintro _ _ ⟨rfl, rfl⟩
        refine XR_a (op_neq rfl rfl) rfl rfl ?_
        refine XR_a (op_move rfl) rfl rfl ?_
        refine XR_if 69 rfl (fun h => ?_) (fun h => ?_)
        · exact absurd rfl h
        · refine XR_a (op_move rfl) rfl rfl ?_
          refine XR_ga (opl_call (wbytes_spec st.here (by omega)) rfl (by kernel_rfl)) rfl rfl rfl (fun _ _ h => h.low) ?_
          rintro v3 hp st3
          obtain ⟨A3, n3, c3, rfl, hlen3, _, _, hrd3⟩ := st3.row 0 rfl
          replace st := st.ext st3.low
          refine XR_a (op_str hrd3 rfl (by simpa using hlen3) rfl rfl rfl) rfl rfl ?_
          refine XR_ga (opl_call (pack_ref (st.rdS 1 rfl).2 rfl (by omega)) rfl (by kernel_rfl)) rfl rfl rfl (fun _ _ h => h.low) ?_
          rintro v4 hp st4
          obtain ⟨A4, n4, c4, rfl, hlen4, _, _, hrd4⟩ := st4.row 0 rfl
          replace st := st.ext st4.low
          refine XR_a (op_str hrd4 rfl (by simpa using hlen4) rfl rfl rfl) rfl rfl ?_
          refine XR_a (op_neqS rfl rfl) rfl rfl ?_
          refine XR_a (op_pick_f rfl rfl) rfl rfl ?_
          refine XR_nil ?_
          refine X_if rfl (fun h => ?_) (fun h => ?_)
          · exact absurd rfl h
          · refine X_skip ?_
            refine X_blk ?_
            refine X_reg ?_
            refine XR_a (op_move rfl) rfl rfl ?_
            first | refine XR_a (op_addN (n := 1) rfl rfl (by simp only [inK]; omega)) rfl rfl ?_ | refine XR_a (op_addI rfl rfl (by simp only [inK]; omega)) rfl rfl ?_ | refine XR_a (op_add rfl rfl) rfl rfl ?_
            refine XR_a (op_assign rfl) rfl rfl ?_
            refine XR_nil ?_
            exact X_again (i + 1, al / 2, bs, _) (.cons rfl (.cons rfl (.cons rfl (.cons rfl (.cons rfl (.cons rfl (.nil _))))))) ⟨st, by simp only; omega, by simpa using hb, by simp only; omega⟩ (by simp only; omega)
      · refine X_skip ?_
        refine X_seq ?_
        refine X_reg ?_
        refine XR_a (op_move rfl) rfl rfl ?_
        first | refine XR_a (op_quoN (n := 2) rfl rfl (by omega) (by simp only [inK]; omega)) rfl rfl ?_ | refine XR_a (op_quoI rfl rfl (by omega) (by omega) (by simp only [inK]; omega)) rfl rfl ?_ | refine XR_a (op_quo rfl rfl (by omega)) rfl rfl ?_
        refine XR_a (op_assign rfl) rfl rfl ?_
        refine XR_nil ?_
        refine X_seq ?_
        refine X_draw byKind (by kernel_rfl) (by kernel_rfl) ?_
        refine XR_a (op_move rfl) rfl rfl ?_
        refine XR_a (op_move rfl) rfl rfl ?_
        first | refine XR_a (op_index1 rfl rfl rfl (by omega)) rfl rfl ?_ | refine XR_a (op_index rfl rfl rfl (by omega)) rfl rfl ?_
        first | refine XR_a (op_field0 rfl rfl) rfl rfl ?_ | refine XR_a (op_fieldn rfl rfl) rfl rfl ?_
        refine XR_a (op_ld (cellH_ext st.low hc0) rfl rfl rfl) rfl rfl ?_
        refine XR_a (op_move rfl) rfl rfl ?_
        refine XR_a (op_move rfl) rfl rfl ?_
        first | refine XR_a (op_index1 rfl rfl rfl (by omega)) rfl rfl ?_ | refine XR_a (op_index rfl rfl rfl (by omega)) rfl rfl ?_
        first | refine XR_a (op_field0 rfl rfl) rfl rfl ?_ | refine XR_a (op_fieldn rfl rfl) rfl rfl ?_
        refine XR_a (op_ld (cellH_ext st.low hc1) rfl rfl rfl) rfl rfl ?_
        refine XR_wa (opl_call (put_spec st.here hn (by omega)) rfl (by kernel_rfl)) rfl rfl rfl ?_
        rintro _ hp ⟨rfl, st2⟩
        replace st := st.trans st2
        refine XR_nil ?_
        refine X_seq ?_
        refine X_draw byKind (by kernel_rfl) (by kernel_rfl) ?_
        refine XR_a (op_move rfl) rfl rfl ?_
        refine XR_a (op_move rfl) rfl rfl ?_
        refine XR_a (op_move rfl) rfl rfl ?_
        first | refine XR_a (op_index1 rfl rfl rfl (by omega)) rfl rfl ?_ | refine XR_a (op_index rfl rfl rfl (by omega)) rfl rfl ?_
        first | refine XR_a (op_field0 rfl rfl) rfl rfl ?_ | refine XR_a (op_fieldn rfl rfl) rfl rfl ?_
        refine XR_a (op_ld (cellH_ext st.low hc0) rfl rfl rfl) rfl rfl ?_
        refine XR_a (op_move rfl) rfl rfl ?_
        refine XR_a (op_move rfl) rfl rfl ?_
        first | refine XR_a (op_index1 rfl rfl rfl (by omega)) rfl rfl ?_ | refine XR_a (op_index rfl rfl rfl (by omega)) rfl rfl ?_
        first | refine XR_a (op_field0 rfl rfl) rfl rfl ?_ | refine XR_a (op_fieldn rfl rfl) rfl rfl ?_
        refine XR_a (op_ld (cellH_ext st.low hc1) rfl rfl rfl) rfl rfl ?_
        refine XR_wa (opl_call (put_none _ _ _) rfl (by kernel_rfl)) rfl rfl rfl ?_
        rintro _ _ ⟨rfl, rfl⟩
        refine XR_nil ?_
        refine X_seq ?_
        refine X_draw (butAt [(11, .grow)]) (by kernel_rfl) (by kernel_rfl) ?_
        refine XR_a (op_move rfl) rfl rfl ?_
        refine XR_a (op_move rfl) rfl rfl ?_
        refine XR_a (op_move rfl) rfl rfl ?_
        first | refine XR_a (op_index1 rfl rfl rfl (by omega)) rfl rfl ?_ | refine XR_a (op_index rfl rfl rfl (by omega)) rfl rfl ?_
        first | refine XR_a (op_field0 rfl rfl) rfl rfl ?_ | refine XR_a (op_fieldn rfl rfl) rfl rfl ?_
        refine XR_a (op_ld (cellH_ext st.low hc0) rfl rfl rfl) rfl rfl ?_
        refine XR_a (op_move rfl) rfl rfl ?_
        refine XR_a (op_move rfl) rfl rfl ?_
        first | refine XR_a (op_index1 rfl rfl rfl (by omega)) rfl rfl ?_ | refine XR_a (op_index rfl rfl rfl (by omega)) rfl rfl ?_
        first | refine XR_a (op_field0 rfl rfl) rfl rfl ?_ | refine XR_a (op_fieldn rfl rfl) rfl rfl ?_
        refine XR_a (op_ld (cellH_ext st.low hc1) rfl rfl rfl) rfl rfl ?_
        refine XR_ga (opl_call (brow_ref hn) rfl (by kernel_rfl)) rfl rfl rfl (fun _ _ h => h.low) ?_
        rintro v2 hp st2
        obtain ⟨A2, n2, c2, rfl, hlen2, _, _, hrd2⟩ := st2.row 0 rfl
        replace st := st.ext st2.low
        refine XR_wa (opl_append st 1 rfl (hrd2) (hlen2) (one_bytes _) (by simp [b01_length, bitsN_length]; omega) rfl rfl rfl rfl rfl rfl rfl) rfl rfl rfl fun v hp st => ?_
        simp only [List.set_cons_zero, List.set_cons_succ] at st
        rw [← List.map_append, ← b01_append] at st
        obtain ⟨bs, hb, st⟩ : ∃ bs' : List Bool, bs'.length ≤ 39 * (i + 1) ∧ St h0.size h0 hp [wrR pw bs', row 5 1 v ((b01 bs').map byteV)] := ⟨_, by rw [List.length_append, bitsN_length]; omega, st⟩
        refine XR_a (op_assign rfl) rfl rfl ?_
        refine XR_nil ?_
        refine X_seq ?_
        obtain ⟨A5, n5, c5, rfl, hlen5, _, _, hrd5⟩ := st.row 1 rfl
        obtain rfl : n5 = bs.length := by rw [List.length_map, b01_length] at hlen5; omega
        refine X_draw_in (butAt [(0, .grow), (5, .grow), (8, .grow)]) [1, 2, 0, 3, 4, 7, 5, 6, 8, 9, 10, 11] (by kernel_rfl) (by kernel_rfl) rfl ?_
        refine XR_a (op_move rfl) rfl rfl ?_
        refine XR_a (op_len rfl rfl rfl) rfl rfl ?_
        refine XR_ga (opl_call (wlen_spec st.here (by omega)) rfl (by kernel_rfl)) rfl rfl rfl (fun _ _ h => h.2 ▸ Low.refl _ _) ?_
        rintro _ _ ⟨rfl, rfl⟩
        refine XR_a (op_neq rfl rfl) rfl rfl ?_
        refine XR_a (op_move rfl) rfl rfl ?_
        refine XR_if 69 rfl (fun h => ?_) (fun h => ?_)
        · exact absurd rfl h
        · refine XR_a (op_move rfl) rfl rfl ?_
          refine XR_ga (opl_call (wbytes_spec st.here (by omega)) rfl (by kernel_rfl)) rfl rfl rfl (fun _ _ h => h.low) ?_
          rintro v3 hp st3
          obtain ⟨A3, n3, c3, rfl, hlen3, _, _, hrd3⟩ := st3.row 0 rfl
          replace st := st.ext st3.low
          refine XR_a (op_str hrd3 rfl (by simpa using hlen3) rfl rfl rfl) rfl rfl ?_
          refine XR_ga (opl_call (pack_ref (st.rdS 1 rfl).2 rfl (by omega)) rfl (by kernel_rfl)) rfl rfl rfl (fun _ _ h => h.low) ?_
          rintro v4 hp st4
          obtain ⟨A4, n4, c4, rfl, hlen4, _, _, hrd4⟩ := st4.row 0 rfl
          replace st := st.ext st4.low
          refine XR_a (op_str hrd4 rfl (by simpa using hlen4) rfl rfl rfl) rfl rfl ?_
          refine XR_a (op_neqS rfl rfl) rfl rfl ?_
          refine XR_a (op_pick_f rfl rfl) rfl rfl ?_
          refine XR_nil ?_
          refine X_if rfl (fun h => ?_) (fun h => ?_)
          · exact absurd rfl h
          · refine X_skip ?_
            refine X_blk ?_
            refine X_reg ?_
            refine XR_a (op_move rfl) rfl rfl ?_
            first | refine XR_a (op_addN (n := 1) rfl rfl (by simp only [inK]; omega)) rfl rfl ?_ | refine XR_a (op_addI rfl rfl (by simp only [inK]; omega)) rfl rfl ?_ | refine XR_a (op_add rfl rfl) rfl rfl ?_
            refine XR_a (op_assign rfl) rfl rfl ?_
            refine XR_nil ?_
            exact X_again (i + 1, al / 2, bs, _) (.cons rfl (.cons rfl (.cons rfl (.cons rfl (.cons rfl (.cons rfl (.nil _))))))) ⟨st, by simp only; omega, by simpa using hb, by simp only; omega⟩ (by simp only; omega)
    · refine X_exit rfl ?_
      refine X_seq ?_
      refine X_reg ?_
      refine XR_a (op_move rfl) rfl rfl ?_
      refine XR_wa (opl_call (wlen_none _) rfl (by kernel_rfl)) rfl rfl rfl ?_
      rintro _ _ ⟨rfl, rfl⟩
      refine XR_a (op_eql rfl rfl) rfl rfl ?_
      refine XR_a (op_move rfl) rfl rfl ?_
      refine XR_if 80 rfl (fun h => ?_) (fun h => ?_)
      · refine XR_a (op_move rfl) rfl rfl ?_
        refine XR_wa (opl_call (wbytes_none _) rfl (by kernel_rfl)) rfl rfl rfl ?_
        rintro _ _ ⟨rfl, rfl⟩
        refine XR_a (op_len rfl rfl rfl) rfl rfl ?_
        refine XR_a (op_eql rfl rfl) rfl rfl ?_
        refine XR_a (op_pick_t rfl rfl) rfl rfl ?_
        refine XR_a (op_move rfl) rfl rfl ?_
        refine XR_if 86 rfl (fun h => ?_) (fun h => ?_)
        · refine XR_wa (opl_call (lives03 _) rfl (by kernel_rfl)) rfl rfl rfl ?_
          rintro _ hp ⟨rfl, hx⟩
          refine XR_a (op_pick_t rfl rfl) rfl rfl ?_
          refine XR_a (op_assign rfl) rfl rfl ?_
          refine XR_nil ?_
          refine X_ret (.cons (.tmp rfl) .nil) ?_
          exact ⟨rfl, st.low.trans (hx.mono st.low.size)⟩
        · exact absurd rfl h
      · exact absurd rfl h

theorem bitsBack_ret {m c : Nat} {A : Option Addr} {ps : List (Nat × Int)} {h0 : Heap} (hr : Rd h0 A (ps.flatMap pairUI)) (hl : ps.length = m) (hps : ∀ q ∈ ps, q.1 < 4294967296) :
    Ret Try.prog 14 [.slice A m c] h0 fun v h' => v = .bool true ∧ Ext h0 h' := by
  refine ret_of_X Try.func14 rfl rfl fun w0 hw0 => ?_
  simp only [argE, Nat.zero_add, Nat.reduceAdd]
  refine X_seq ?_
  refine X_reg ?_
  refine XR_a (op_assign rfl) rfl rfl ?_
  refine XR_nil ?_
  refine X_seq ?_
  refine X_seq ?_
  refine X_reg ?_
  refine XR_a (op_move rfl) rfl rfl ?_
  refine XR_a (op_len rfl rfl rfl) rfl rfl ?_
  refine XR_a (op_gtr rfl rfl) rfl rfl ?_
  refine XR_nil ?_
  refine X_if rfl (fun h => ?_) (fun h => ?_)
  · refine X_seq ?_
    refine X_reg ?_
    refine XR_wa (opl_call (lives03 _) rfl (by kernel_rfl)) rfl rfl rfl ?_
    rintro _ hp ⟨rfl, hx⟩
    refine XR_a (op_assign rfl) rfl rfl ?_
    refine XR_nil ?_
    refine X_ret (.cons (.tmp rfl) .nil) ?_
    exact ⟨rfl, hx⟩
  · refine X_skip ?_
    refine X_seq ?_
    refine X_reg ?_
    refine XR_wa (opl_new rfl) rfl rfl rfl ?_
    rintro _ hp ⟨pw, rfl, hnew⟩
    have st := ((St.start h0).new hnew).wr0
    refine XR_nil ?_
    refine X_seq ?_
    refine X_seq ?_
    refine X_reg ?_
    refine XR_a (op_assign rfl) rfl rfl ?_
    refine XR_nil ?_
    refine X_block ?_
    have hpb := pbits_len ps
    refine X_loop (fun s => m - s) (fun s => [(0, .slice A m c), (3, .pointer (some ⟨pw, 0, none⟩)), (4, .int .i64 (s : Int))])
      (fun (s : Nat) hp => St h0.size h0 hp [wrR pw (pbits (ps.take s))] ∧ s ≤ m)
      0 (.cons rfl (.cons rfl (.cons rfl (.nil _)))) ⟨by simpa [pbits] using st, by simp⟩ ?_
    clear st hnew
    rintro i hp ⟨st, hi⟩
    refine X_seq ?_
    refine X_seq ?_
    refine X_reg ?_
    refine XR_a (op_move rfl) rfl rfl ?_
    refine XR_a (op_move rfl) rfl rfl ?_
    refine XR_a (op_len rfl rfl rfl) rfl rfl ?_
    refine XR_a (op_lss rfl rfl) rfl rfl ?_
    refine XR_nil ?_
    refine X_if rfl (fun h => ?_) (fun h => ?_)
    · have hlt : i < ps.length := by omega
      obtain ⟨b, o, rfl, hc⟩ := Rd.flat pairUI 2 hr (fun _ => rfl) (by omega) (by omega)
      have hc0 := hc i hlt 0 _ rfl
      have hc1 := hc i hlt 1 _ rfl
      have hn := hps ps[i] (List.getElem_mem hlt)
      have hsn := pbits_snoc ps i hlt
      have hle := pbits_len (ps.take i)
      rw [List.length_take] at hle
      refine X_skip ?_
      refine X_seq ?_
      refine X_block ?_
      refine X_draw byKind (by kernel_rfl) (by kernel_rfl) ?_
      refine XR_a (op_move rfl) rfl rfl ?_
      refine XR_a (op_move rfl) rfl rfl ?_
      first | refine XR_a (op_index1 rfl rfl rfl (by omega)) rfl rfl ?_ | refine XR_a (op_index rfl rfl rfl (by omega)) rfl rfl ?_
      first | refine XR_a (op_field0 rfl rfl) rfl rfl ?_ | refine XR_a (op_fieldn rfl rfl) rfl rfl ?_
      refine XR_a (op_ld (cellH_ext st.low hc0) rfl rfl rfl) rfl rfl ?_
      refine XR_a (op_move rfl) rfl rfl ?_
      refine XR_a (op_move rfl) rfl rfl ?_
      first | refine XR_a (op_index1 rfl rfl rfl (by omega)) rfl rfl ?_ | refine XR_a (op_index rfl rfl rfl (by omega)) rfl rfl ?_
      first | refine XR_a (op_field0 rfl rfl) rfl rfl ?_ | refine XR_a (op_fieldn rfl rfl) rfl rfl ?_
      refine XR_a (op_ld (cellH_ext st.low hc1) rfl rfl rfl) rfl rfl ?_
      refine XR_wa (opl_call (put_spec st.here hn (by omega)) rfl (by kernel_rfl)) rfl rfl rfl ?_
      rintro _ hp ⟨rfl, st2⟩
      replace st := st.trans st2
      rw [← hsn] at st
      refine XR_nil ?_
      refine X_blk ?_
      refine X_reg ?_
      refine XR_a (op_move rfl) rfl rfl ?_
      first | refine XR_a (op_addN (n := 1) rfl rfl (by simp only [inK]; omega)) rfl rfl ?_ | refine XR_a (op_addI rfl rfl (by simp only [inK]; omega)) rfl rfl ?_ | refine XR_a (op_add rfl rfl) rfl rfl ?_
      refine XR_a (op_assign rfl) rfl rfl ?_
      refine XR_nil ?_
      exact X_again (i + 1) (.cons rfl (.cons rfl (.cons rfl (.nil _)))) ⟨st, by omega⟩ (by omega)
    · obtain rfl : i = m := by omega
      rw [List.take_of_length_le (by omega)] at st
      refine X_exit rfl ?_
      refine X_seq ?_
      refine X_reg ?_
      refine XR_wa (opl_call (wbytes_spec st.here (by omega)) rfl (by kernel_rfl)) rfl rfl rfl ?_
      rintro v3 hp st3
      obtain ⟨A3, n3, c3, rfl, hlen3, _, _, hrd3⟩ := st3.row 0 rfl
      replace st := st.join st3
      have hpl := pack_length (pbits ps)
      have hn3 : (pack (pbits ps)).length = n3 := by simpa using hlen3
      have hbp := bitsB_pack (pbits ps)
      refine XR_wa (opl_call (rnew_spec) rfl (by kernel_rfl)) rfl rfl rfl ?_
      rintro _ hp ⟨pr, rfl, st4⟩
      replace st := st.join st4
      simp only [List.cons_append, List.nil_append] at st
      refine XR_a (op_assign rfl) rfl rfl ?_
      refine XR_nil ?_
      refine X_seq ?_
      refine X_seq ?_
      refine X_reg ?_
      refine XR_a (op_assign rfl) rfl rfl ?_
      refine XR_nil ?_
      refine X_block ?_
      refine X_loop (fun s => i - s) (fun s => [(0, .slice A i c), (3, .pointer (some ⟨pw, 0, none⟩)), (5, .pointer (some ⟨pr, 0, none⟩)), (6, .int .i64 (s : Int))])
        (fun (s : Nat) hp => St h0.size h0 hp [rdG pr A3 n3 c3 (pbits (ps.take s)).length, row 5 1 (.slice A3 n3 c3) ((pack (pbits ps)).map byteV), wrR pw (pbits ps)] ∧ s ≤ i)
        0 (.cons rfl (.cons rfl (.cons rfl (.cons rfl (.nil _))))) ⟨by simpa [pbits] using st, by simp⟩ ?_
      clear st hrd3
      rintro j hp ⟨st, hj⟩
      refine X_seq ?_
      refine X_seq ?_
      refine X_reg ?_
      refine XR_a (op_move rfl) rfl rfl ?_
      refine XR_a (op_move rfl) rfl rfl ?_
      refine XR_a (op_len rfl rfl rfl) rfl rfl ?_
      refine XR_a (op_lss rfl rfl) rfl rfl ?_
      refine XR_nil ?_
      refine X_if rfl (fun h => ?_) (fun h => ?_)
      · have hlt : j < ps.length := by omega
        obtain ⟨b, o, rfl, hc⟩ := Rd.flat pairUI 2 hr (fun _ => rfl) (by omega) (by omega)
        have hc0 := hc j hlt 0 _ rfl
        have hc1 := hc j hlt 1 _ rfl
        have hn := hps ps[j] (List.getElem_mem hlt)
        have hsn := congrArg List.length (pbits_snoc ps j hlt)
        rw [List.length_append, bitsN_length] at hsn
        obtain ⟨hat, hend⟩ := pbits_at ps (List.replicate ((8 - (pbits ps).length % 8) % 8) false) j hlt
        rw [← hbp] at hat
        have hwd := wd_le 32 ps[j].2
        have hwi : (wd 32 ps[j].2 : Int) < 32 → True := fun _ => trivial
        refine X_skip ?_
        refine X_seq ?_
        refine X_block ?_
        refine X_seq ?_
        refine X_reg ?_
        refine XR_a (op_move rfl) rfl rfl ?_
        refine XR_a (op_move rfl) rfl rfl ?_
        first | refine XR_a (op_index1 rfl rfl rfl (by omega)) rfl rfl ?_ | refine XR_a (op_index rfl rfl rfl (by omega)) rfl rfl ?_
        first | refine XR_a (op_field0 rfl rfl) rfl rfl ?_ | refine XR_a (op_fieldn rfl rfl) rfl rfl ?_
        refine XR_a (op_ld (cellH_ext st.low hc1) rfl rfl rfl) rfl rfl ?_
        refine XR_wa (opl_call (bwidth_ref _ _) rfl (by kernel_rfl)) rfl rfl rfl ?_
        rintro _ _ ⟨rfl, rfl⟩
        refine XR_a (op_assign rfl) rfl rfl ?_
        refine XR_nil ?_
        refine X_seq ?_
        refine X_reg ?_
        refine XR_a (op_move rfl) rfl rfl ?_
        refine XR_a (op_move rfl) rfl rfl ?_
        first | refine XR_a (op_index1 rfl rfl rfl (by omega)) rfl rfl ?_ | refine XR_a (op_index rfl rfl rfl (by omega)) rfl rfl ?_
        first | refine XR_a (op_field0 rfl rfl) rfl rfl ?_ | refine XR_a (op_fieldn rfl rfl) rfl rfl ?_
        refine XR_a (op_ld (cellH_ext st.low hc0) rfl rfl rfl) rfl rfl ?_
        refine XR_a (op_assign rfl) rfl rfl ?_
        refine XR_nil ?_
        refine X_seq ?_
        refine X_seq ?_
        refine X_reg ?_
        refine XR_a (op_move rfl) rfl rfl ?_
        refine XR_a (op_lss rfl rfl) rfl rfl ?_
        refine XR_nil ?_
        refine X_if rfl (fun h => ?_) (fun h => ?_)
        · have h32 : 2 ^ wd 32 ps[j].2 ≤ 2147483648 := Nat.le_trans (Nat.pow_le_pow_right (by omega) (show _ ≤ 31 by omega)) (by decide)
          have hpos : 1 ≤ 2 ^ wd 32 ps[j].2 := Nat.two_pow_pos _
          refine X_reg ?_
          refine XR_a (op_move rfl) rfl rfl ?_
          refine XR_a (op_move rfl) rfl rfl ?_
          first | refine XR_a (op_convI rfl rfl (by simp only [inK]; omega)) rfl rfl ?_ | refine XR_a (op_convU rfl rfl rfl) rfl rfl ?_ | refine XR_a (op_conv rfl rfl) rfl rfl ?_
          refine XR_a (op_shlC (m := 1) (wd 32 ps[j].2) rfl rfl (by simp only [IntKind.bits]; omega) (by simp only [inK]; omega)) rfl rfl ?_
          rw [Nat.one_mul]
          refine XR_a (op_remN rfl rfl (by omega)) rfl rfl ?_
          refine XR_a (op_assign rfl) rfl rfl ?_
          refine XR_nil ?_
          refine X_seq ?_
          refine X_reg ?_
          refine XR_a (op_move rfl) rfl rfl ?_
          refine XR_a (op_move rfl) rfl rfl ?_
          refine XR_a (op_move rfl) rfl rfl ?_
          first | refine XR_a (op_index1 rfl rfl rfl (by omega)) rfl rfl ?_ | refine XR_a (op_index rfl rfl rfl (by omega)) rfl rfl ?_
          first | refine XR_a (op_field0 rfl rfl) rfl rfl ?_ | refine XR_a (op_fieldn rfl rfl) rfl rfl ?_
          refine XR_a (op_ld (cellH_ext st.low hc1) rfl rfl rfl) rfl rfl ?_
          refine XR_wa (opl_call (rpeek_spec (st.cell 0 rfl rfl) (st.cell 0 rfl rfl) (st.rdS 1 rfl).2 hn3 (by omega) (by omega)) rfl (by kernel_rfl)) rfl rfl rfl ?_
          rintro _ _ ⟨rfl, rfl⟩
          rw [hat]
          refine XR_a (op_assign rfl) rfl rfl ?_
          refine XR_nil ?_
          refine X_seq ?_
          refine X_reg ?_
          refine XR_a (op_move rfl) rfl rfl ?_
          refine XR_a (op_move rfl) rfl rfl ?_
          refine XR_a (op_move rfl) rfl rfl ?_
          first | refine XR_a (op_index1 rfl rfl rfl (by omega)) rfl rfl ?_ | refine XR_a (op_index rfl rfl rfl (by omega)) rfl rfl ?_
          first | refine XR_a (op_field0 rfl rfl) rfl rfl ?_ | refine XR_a (op_fieldn rfl rfl) rfl rfl ?_
          refine XR_a (op_ld (cellH_ext st.low hc1) rfl rfl rfl) rfl rfl ?_
          refine XR_wa (opl_call (rtake_spec st.here (st.rdS 1 rfl).2 hn3 (by omega) (by omega)) rfl (by kernel_rfl)) rfl rfl rfl ?_
          rintro _ hp ⟨rfl, st2⟩
          replace st := st.trans st2
          have hthere : wd 32 ps[j].2 ≤ 8 * n3 - (pbits (ps.take j)).length := by omega
          rw [if_pos hthere, ← hsn] at st
          rw [if_pos hthere, decide_eq_true hthere, hat]
          refine XR_a (op_move rfl) rfl rfl ?_
          refine XR_a (op_extract rfl rfl) rfl rfl ?_
          refine XR_a (op_extract rfl rfl) rfl rfl ?_
          refine XR_a (op_assign rfl) rfl rfl ?_
          refine XR_a (op_assign rfl) rfl rfl ?_
          refine XR_nil ?_
          refine X_seq ?_
          refine X_reg ?_
          refine XR_a (op_move rfl) rfl rfl ?_
          first | refine XR_a (op_notd rfl) rfl rfl ?_ | refine XR_a (op_not rfl) rfl rfl ?_
          refine XR_a (op_move rfl) rfl rfl ?_
          refine XR_a (op_move rfl) rfl rfl ?_
          refine XR_a (op_move rfl) rfl rfl ?_
          refine XR_a (op_neq rfl rfl) rfl rfl ?_
          refine XR_a (op_pick_f rfl rfl) rfl rfl ?_
          refine XR_a (op_move rfl) rfl rfl ?_
          refine XR_if 83 rfl (fun h => ?_) (fun h => ?_)
          · exact absurd rfl h
          · refine XR_a (op_move rfl) rfl rfl ?_
            refine XR_a (op_move rfl) rfl rfl ?_
            refine XR_a (op_neq rfl rfl) rfl rfl ?_
            refine XR_a (op_pick_f rfl rfl) rfl rfl ?_
            refine XR_nil ?_
            refine X_if rfl (fun h => ?_) (fun h => ?_)
            · exact absurd rfl h
            · refine X_skip ?_
              refine X_blk ?_
              refine X_reg ?_
              refine XR_a (op_move rfl) rfl rfl ?_
              first | refine XR_a (op_addN (n := 1) rfl rfl (by simp only [inK]; omega)) rfl rfl ?_ | refine XR_a (op_addI rfl rfl (by simp only [inK]; omega)) rfl rfl ?_ | refine XR_a (op_add rfl rfl) rfl rfl ?_
              refine XR_a (op_assign rfl) rfl rfl ?_
              refine XR_nil ?_
              exact X_again (j + 1) (.cons rfl (.cons rfl (.cons rfl (.cons rfl (.nil _))))) ⟨st, by omega⟩ (by omega)
        · refine X_skip ?_
          refine X_seq ?_
          have hwant : ps[j].1 % 2 ^ wd 32 ps[j].2 = ps[j].1 := by
            rw [show wd 32 ps[j].2 = 32 by omega]; exact Nat.mod_eq_of_lt hn
          rw [hwant] at hat
          refine X_reg ?_
          refine XR_a (op_move rfl) rfl rfl ?_
          refine XR_a (op_move rfl) rfl rfl ?_
          refine XR_a (op_move rfl) rfl rfl ?_
          first | refine XR_a (op_index1 rfl rfl rfl (by omega)) rfl rfl ?_ | refine XR_a (op_index rfl rfl rfl (by omega)) rfl rfl ?_
          first | refine XR_a (op_field0 rfl rfl) rfl rfl ?_ | refine XR_a (op_fieldn rfl rfl) rfl rfl ?_
          refine XR_a (op_ld (cellH_ext st.low hc1) rfl rfl rfl) rfl rfl ?_
          refine XR_wa (opl_call (rpeek_spec (st.cell 0 rfl rfl) (st.cell 0 rfl rfl) (st.rdS 1 rfl).2 hn3 (by omega) (by omega)) rfl (by kernel_rfl)) rfl rfl rfl ?_
          rintro _ _ ⟨rfl, rfl⟩
          rw [hat]
          refine XR_a (op_assign rfl) rfl rfl ?_
          refine XR_nil ?_
          refine X_seq ?_
          refine X_reg ?_
          refine XR_a (op_move rfl) rfl rfl ?_
          refine XR_a (op_move rfl) rfl rfl ?_
          refine XR_a (op_move rfl) rfl rfl ?_
          first | refine XR_a (op_index1 rfl rfl rfl (by omega)) rfl rfl ?_ | refine XR_a (op_index rfl rfl rfl (by omega)) rfl rfl ?_
          first | refine XR_a (op_field0 rfl rfl) rfl rfl ?_ | refine XR_a (op_fieldn rfl rfl) rfl rfl ?_
          refine XR_a (op_ld (cellH_ext st.low hc1) rfl rfl rfl) rfl rfl ?_
          refine XR_wa (opl_call (rtake_spec st.here (st.rdS 1 rfl).2 hn3 (by omega) (by omega)) rfl (by kernel_rfl)) rfl rfl rfl ?_
          rintro _ hp ⟨rfl, st2⟩
          replace st := st.trans st2
          have hthere : wd 32 ps[j].2 ≤ 8 * n3 - (pbits (ps.take j)).length := by omega
          rw [if_pos hthere, ← hsn] at st
          rw [if_pos hthere, decide_eq_true hthere, hat]
          refine XR_a (op_move rfl) rfl rfl ?_
          refine XR_a (op_extract rfl rfl) rfl rfl ?_
          refine XR_a (op_extract rfl rfl) rfl rfl ?_
          refine XR_a (op_assign rfl) rfl rfl ?_
          refine XR_a (op_assign rfl) rfl rfl ?_
          refine XR_nil ?_
          refine X_seq ?_
          refine X_reg ?_
          refine XR_a (op_move rfl) rfl rfl ?_
          first | refine XR_a (op_notd rfl) rfl rfl ?_ | refine XR_a (op_not rfl) rfl rfl ?_
          refine XR_a (op_move rfl) rfl rfl ?_
          refine XR_a (op_move rfl) rfl rfl ?_
          refine XR_a (op_move rfl) rfl rfl ?_
          refine XR_a (op_neq rfl rfl) rfl rfl ?_
          refine XR_a (op_pick_f rfl rfl) rfl rfl ?_
          refine XR_a (op_move rfl) rfl rfl ?_
          refine XR_if 83 rfl (fun h => ?_) (fun h => ?_)
          · exact absurd rfl h
          · refine XR_a (op_move rfl) rfl rfl ?_
            refine XR_a (op_move rfl) rfl rfl ?_
            refine XR_a (op_neq rfl rfl) rfl rfl ?_
            refine XR_a (op_pick_f rfl rfl) rfl rfl ?_
            refine XR_nil ?_
            refine X_if rfl (fun h => ?_) (fun h => ?_)
            · exact absurd rfl h
            · refine X_skip ?_
              refine X_blk ?_
              refine X_reg ?_
              refine XR_a (op_move rfl) rfl rfl ?_
              first | refine XR_a (op_addN (n := 1) rfl rfl (by simp only [inK]; omega)) rfl rfl ?_ | refine XR_a (op_addI rfl rfl (by simp only [inK]; omega)) rfl rfl ?_ | refine XR_a (op_add rfl rfl) rfl rfl ?_
              refine XR_a (op_assign rfl) rfl rfl ?_
              refine XR_nil ?_
              exact X_again (j + 1) (.cons rfl (.cons rfl (.cons rfl (.cons rfl (.nil _))))) ⟨st, by omega⟩ (by omega)
      · obtain rfl : j = i := by omega
        rw [List.take_of_length_le (by omega)] at st
        refine X_exit rfl ?_
        refine X_seq ?_
        refine X_reg ?_
        refine XR_a (op_move rfl) rfl rfl ?_
        refine XR_wa (opl_call (rleft_spec (st.cell 0 rfl rfl) (st.cell 0 rfl rfl) (by omega) (by omega)) rfl (by kernel_rfl)) rfl rfl rfl ?_
        rintro _ _ ⟨rfl, rfl⟩
        refine XR_a (op_lss rfl rfl) rfl rfl ?_
        refine XR_a (op_move rfl) rfl rfl ?_
        refine XR_if 91 rfl (fun h => ?_) (fun h => ?_)
        · refine XR_a (op_move rfl) rfl rfl ?_
          refine XR_wa (opl_call (rpeek_spec (st.cell 0 rfl rfl) (st.cell 0 rfl rfl) (st.rdS 1 rfl).2 hn3 (by omega) (by omega)) rfl (by kernel_rfl)) rfl rfl rfl ?_
          rintro _ _ ⟨rfl, rfl⟩
          rw [hbp, numB_tail]
          refine XR_a (op_eql rfl rfl) rfl rfl ?_
          refine XR_a (op_pick_t rfl rfl) rfl rfl ?_
          refine XR_a (op_move rfl) rfl rfl ?_
          refine XR_if 96 rfl (fun h => ?_) (fun h => ?_)
          · refine XR_a (op_move rfl) rfl rfl ?_
            refine XR_wa (opl_call (rat_spec (st.cell 0 rfl rfl)) rfl (by kernel_rfl)) rfl rfl rfl ?_
            rintro _ _ ⟨rfl, rfl⟩
            refine XR_wa (opl_call (wlen_spec (B := h0.size) (F := []) st.tail.tail.here (by omega)) rfl (by kernel_rfl)) rfl rfl rfl ?_
            rintro _ _ ⟨rfl, rfl⟩
            refine XR_a (op_eql rfl rfl) rfl rfl ?_
            refine XR_a (op_pick_t rfl rfl) rfl rfl ?_
            refine XR_a (op_move rfl) rfl rfl ?_
            refine XR_if 102 rfl (fun h => ?_) (fun h => ?_)
            · refine XR_wa (opl_call (lives03 _) rfl (by kernel_rfl)) rfl rfl rfl ?_
              rintro _ hp ⟨rfl, hx⟩
              refine XR_a (op_pick_t rfl rfl) rfl rfl ?_
              refine XR_a (op_assign rfl) rfl rfl ?_
              refine XR_nil ?_
              refine X_ret (.cons (.tmp rfl) .nil) ?_
              exact ⟨rfl, st.low.trans (hx.mono st.low.size)⟩
            · exact absurd rfl h
          · exact absurd rfl h
        · exact absurd (show ((8 * n3 - (pbits ps).length : Nat) : Int) < 8 by omega) h
end Go.Bn
