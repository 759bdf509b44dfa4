/- The contract of bindleref34.Find, the example, and the law QuickTurns. -/
import Derived.Test.YtnphdfaihpljlaaQuickR
set_option linter.unusedVariables false
set_option linter.unusedSimpArgs false
set_option maxHeartbeats 4000000
set_option maxRecDepth 20000
namespace Go.Bn
open Go Proofs

theorem begins_short {v n w x s : Nat} (h : n ≤ w) : beginsB (codeBits v n) (bitsN w x) = hitQ x (s, turnV v n, n) := by
  unfold beginsB
  rw [bitsN_length, codeBits_length, bitsN_take n w x h, List.take_of_length_le (by rw [codeBits_length]; exact h), Bool.eq_iff_iff, beq_iff_eq, hitQ_iff]
  simp only
  rw [match_iff]
  exact eq_comm
theorem begins_long {v n w x s : Nat} (h : w < n) (hx : x < 2 ^ w) : beginsB (codeBits v n) (bitsN w x) = longQ w x (s, turnV v n, n) := by
  unfold beginsB
  rw [bitsN_length, codeBits_length, List.take_of_length_le (l := bitsN w x) (by rw [bitsN_length]; omega), ← bits_turnV, bitsN_take w n _ (by omega), Bool.eq_iff_iff, beq_iff_eq, longQ_iff]
  simp only
  constructor
  · intro e
    refine ⟨h, ?_⟩
    rw [← bitsN_mod] at e
    exact bitsN_inj (n := w) (Nat.mod_lt _ (Nat.pow_pos (by omega))) hx e
  · rintro ⟨_, e⟩
    rw [← bitsN_mod, e]

theorem find_ref {n c d x w : Nat} {A B : Option Addr} {ls : List Nat} {h0 : Heap} (hr : Rd h0 A (ls.map nV)) (hl : ls.length = n) (hs : Rd h0 B ((vals ls).map nV)) (hok : lensOK ls) (hw : w ≤ 15) (hx : x < 2 ^ w) :
    Ret Try.prog 40 [.slice A n c, .slice B n d, .int .i64 (x : Int), .int .i64 (w : Int)] h0
      fun v h' => v = retVal [.int .i64 ((rowQ (qcodes ls) w x).1 : Nat), .int .i64 ((rowQ (qcodes ls) w x).2.1 : Nat), .bool (rowQ (qcodes ls) w x).2.2] ∧ Ext h0 h' := by
  have hQ := qcodes_ok hok
  have h320 := hok.2.1
  have hpw : 2 ^ w ≤ 32768 := Nat.pow_le_pow_right (n := 2) (by omega) hw
  refine ret_of_X Try.func40 rfl rfl fun w0 hw0 => ?_
  simp only [argE, Nat.zero_add, Nat.reduceAdd]
  refine X_seq ?_
  refine X_reg ?_
  refine XR_a (op_assign rfl) rfl rfl ?_
  refine XR_a (op_assign rfl) rfl rfl ?_
  refine XR_a (op_assign rfl) rfl rfl ?_
  refine XR_nil ?_
  refine X_seq ?_
  refine X_reg ?_
  refine XR_a (op_move rfl) rfl rfl ?_
  refine XR_a (op_move rfl) rfl rfl ?_
  refine XR_wa (opl_call (row34_ref (x := x) (w := w) (by omega) (by omega)) rfl (by kernel_rfl)) rfl rfl rfl ?_
  rintro vr hp st
  obtain ⟨Ar, nr, cr, rfl, hlenr, _, _, _⟩ := st.row 0 rfl
  rw [List.length_map, b01_length, bitsN_length] at hlenr
  refine XR_a (op_assign rfl) rfl rfl ?_
  refine XR_nil ?_
  refine X_seq ?_
  refine X_reg ?_
  refine XR_a (op_assign rfl) rfl rfl ?_
  refine XR_nil ?_
  refine X_seq ?_
  refine X_seq ?_
  refine X_reg ?_
  refine XR_a (op_assign rfl) rfl rfl ?_
  refine XR_nil ?_
  refine X_block ?_
  refine X_loop (fun s => n - s.1) (fun s => [(0, .slice A n c), (1, .slice B n d), (3, .int .i64 (w : Int)), (11, .slice Ar nr cr), (12, .int .i64 (s.2 : Nat)), (13, .int .i64 (s.1 : Nat))])
    (fun (s : Nat × Nat) hp => St h0.size h0 hp [row 5 1 (.slice Ar nr cr) ((b01 (bitsN w x)).map byteV)] ∧ s.1 ≤ n ∧ (codesTo ls s.1).find? (shortQ w x) = none ∧ s.2 = longest (codesTo ls s.1) w x)
    (0, 0) (.cons rfl (.cons rfl (.cons rfl (.cons rfl (.cons rfl (.cons rfl (.nil _))))))) ⟨st, by simp, rfl, rfl⟩ ?_
  clear st
  rintro ⟨s, long⟩ hp ⟨st, hi, hfn, hlg⟩
  simp only at st hi hfn hlg ⊢
  refine X_seq ?_
  refine X_seq ?_
  refine X_reg ?_
  refine XR_a (op_move rfl) rfl rfl ?_
  refine XR_a (op_move rfl) rfl rfl ?_
  refine XR_a (op_len rfl rfl rfl) rfl rfl ?_
  refine XR_a (op_lss rfl rfl) rfl rfl ?_
  refine XR_a (op_move rfl) rfl rfl ?_
  refine XR_if 21 rfl (fun h => ?_) (fun h => ?_)
  · refine XR_a (op_move rfl) rfl rfl ?_
    refine XR_a (op_move rfl) rfl rfl ?_
    refine XR_a (op_len rfl rfl rfl) rfl rfl ?_
    refine XR_a (op_lss rfl rfl) rfl rfl ?_
    refine XR_a (op_pick_t rfl rfl) rfl rfl ?_
    refine XR_nil ?_
    refine X_if rfl (fun h => ?_) (fun h => ?_)
    · refine X_skip ?_
      refine X_seq ?_
      refine X_block ?_
      refine X_seq ?_
      refine X_seq ?_
      have hlt : s < ls.length := by omega
      obtain ⟨g, o, rfl, hc⟩ := hr.at_ (by rw [List.length_map]; omega)
      obtain ⟨g2, o2, rfl, hc2⟩ := hs.at_ (by rw [List.length_map, vals_length]; omega)
      have hci := fun {hp : Heap} (hx : Ext h0 hp) => cellH_ext (a := ⟨g, o + s, none⟩) hx (hc s (nV ls[s]) (by simp [hlt]))
      have hvi : (vals ls)[s]? = some (val ls s) := by simp [vals, hlt]
      have hcv := fun {hp : Heap} (hx : Ext h0 hp) => cellH_ext (a := ⟨g2, o2 + s, none⟩) hx (hc2 s _ (map_get_nV hvi))
      have h15 := hok.2.2.1 ls[s] (List.getElem_mem hlt)
      have hcs := codesTo_succ ls s
      have hco : codeOf ls s = if ls[s] = 0 then [] else [(s, turnV (val ls s) ls[s], ls[s])] := by unfold codeOf; rw [getD_get hlt]
      have hmemQ : ls[s] ≠ 0 → (s, turnV (val ls s) ls[s], ls[s]) ∈ qcodes ls := fun h0 => mem_qcodes.2 ⟨s, hlt, h0, rfl⟩
      have hvb : ls[s] ≠ 0 → val ls s < 32769 := fun h0 => by
        have h1 := val_lt hok hlt h0
        have h2 := fst_bd hok h15
        omega
      have hbs := fun h : ls[s] ≤ w => begins_short (v := val ls s) (n := ls[s]) (w := w) (x := x) (s := s) h
      have hbl := fun h : w < ls[s] => begins_long (v := val ls s) (n := ls[s]) (w := w) (x := x) (s := s) h hx
      obtain ⟨k, hk⟩ : ∃ k, ls[s] = k := ⟨_, rfl⟩
      obtain ⟨v, hv⟩ : ∃ v, val ls s = v := ⟨_, rfl⟩
      rw [hk] at hci h15 hco hmemQ hvb hbs hbl
      rw [hv] at hcv hco hmemQ hvb hbs hbl
      refine X_draw_in (butAt [(14, .grow), (16, .grow)]) [0, 1, 2, 3, 4, 5, 6, 7, 8, 9, 10, 11, 12, 13, 15, 14, 16, 17, 18] (by kernel_rfl) (by kernel_rfl) rfl ?_
      refine XR_a (op_move rfl) rfl rfl ?_
      refine XR_a (op_move rfl) rfl rfl ?_
      first | refine XR_a (op_index1 rfl rfl rfl (by omega)) rfl rfl ?_ | refine XR_a (op_index rfl rfl rfl (by omega)) rfl rfl ?_
      refine XR_a (op_ld (hci st.low) rfl rfl rfl) rfl rfl ?_
      refine XR_a (op_eql rfl rfl) rfl rfl ?_
      refine XR_a (op_move rfl) rfl rfl ?_
      refine XR_if 34 rfl (fun h => ?_) (fun h => ?_)
      · refine XR_no rfl rfl ?_
        refine XR_no rfl rfl ?_
        refine XR_no rfl rfl ?_
        refine XR_no rfl rfl ?_
        refine XR_no rfl rfl ?_
        refine XR_no rfl rfl ?_
        refine XR_no rfl rfl ?_
        refine XR_no rfl rfl ?_
        refine XR_no rfl rfl ?_
        refine XR_no rfl rfl ?_
        refine XR_no rfl rfl ?_
        refine XR_no rfl rfl ?_
        refine XR_a (op_pick_t rfl rfl) rfl rfl ?_
        refine XR_nil ?_
        refine X_then rfl ?_
        refine X_exit rfl ?_
        refine X_reg ?_
        refine XR_a (op_move rfl) rfl rfl ?_
        first | refine XR_a (op_addN (n := 1) rfl rfl (by simp only [inK]; omega)) rfl rfl ?_ | refine XR_a (op_addI rfl rfl (by simp only [inK]; omega)) rfl rfl ?_ | refine XR_a (op_add rfl rfl) rfl rfl ?_
        refine XR_a (op_assign rfl) rfl rfl ?_
        refine XR_nil ?_
        rw [if_pos (by omega)] at hco
        rw [hco, List.append_nil] at hcs
        exact X_again (s + 1, long) (.cons rfl (.cons rfl (.cons rfl (.cons rfl (.cons rfl (.cons rfl (.nil _))))))) ⟨st, by simp only; omega, by simp only; rw [hcs]; exact hfn, by simp only; rw [hcs]; exact hlg⟩ (by simp only; omega)
      · refine XR_a (op_move rfl) rfl rfl ?_
        refine XR_a (op_move rfl) rfl rfl ?_
        first | refine XR_a (op_index1 rfl rfl rfl (by omega)) rfl rfl ?_ | refine XR_a (op_index rfl rfl rfl (by omega)) rfl rfl ?_
        refine XR_a (op_ld (hcv st.low) rfl rfl rfl) rfl rfl ?_
        refine XR_a (op_move rfl) rfl rfl ?_
        refine XR_a (op_move rfl) rfl rfl ?_
        first | refine XR_a (op_index1 rfl rfl rfl (by omega)) rfl rfl ?_ | refine XR_a (op_index rfl rfl rfl (by omega)) rfl rfl ?_
        refine XR_a (op_ld (hci st.low) rfl rfl rfl) rfl rfl ?_
        refine XR_a (op_move rfl) rfl rfl ?_
        refine XR_ga (opl_call (bits08_ref (z := v) (n := k) (by have := hvb (by omega); omega) (by omega)) rfl (by kernel_rfl)) rfl rfl rfl (fun _ _ h => h.low) ?_
        rintro v2 hp st2
        obtain ⟨A2, n2, c2, rfl, hlen2, _, _, hrd2⟩ := st2.row 0 rfl
        rw [List.length_map, b01_length, codeBits_length] at hlen2
        replace st := st.ext st2.low
        refine XR_ga (opl_call (begins_ref (a := codeBits v k) (b := bitsN w x) hrd2 (by rw [codeBits_length]; omega) (st.rdS 0 rfl).2 (by rw [bitsN_length]; omega) (by omega)) rfl (by kernel_rfl)) rfl rfl rfl (fun _ _ h => h.2 ▸ Low.refl _ _) ?_
        rintro _ _ ⟨rfl, rfl⟩
        first | refine XR_a (op_notd rfl) rfl rfl ?_ | refine XR_a (op_not rfl) rfl rfl ?_
        refine XR_a (op_pick_f rfl rfl) rfl rfl ?_
        refine XR_nil ?_
        refine X_cond rfl (fun h => ?_) (fun h => ?_)
        · refine X_exit rfl ?_
          refine X_reg ?_
          refine XR_a (op_move rfl) rfl rfl ?_
          first | refine XR_a (op_addN (n := 1) rfl rfl (by simp only [inK]; omega)) rfl rfl ?_ | refine XR_a (op_addI rfl rfl (by simp only [inK]; omega)) rfl rfl ?_ | refine XR_a (op_add rfl rfl) rfl rfl ?_
          refine XR_a (op_assign rfl) rfl rfl ?_
          refine XR_nil ?_
          have hbf : beginsB (codeBits v k) (bitsN w x) = false := by simpa using h
          rw [if_neg (by omega)] at hco
          rw [hco] at hcs
          have hns : shortQ w x (s, turnV v k, k) = false := by
            cases hh : shortQ w x (s, turnV v k, k) with
            | false => rfl
            | true =>
              obtain ⟨h1, h2⟩ := shortQ_iff.1 hh
              have := hbs h1
              rw [hbf] at this
              rw [hitQ_iff.2 h2] at this; cases this
          have hnl : longQ w x (s, turnV v k, k) = false := by
            cases hh : longQ w x (s, turnV v k, k) with
            | false => rfl
            | true =>
              have := hbl (longQ_iff.1 hh).1
              rw [hbf, hh] at this; cases this
          refine X_again (s + 1, long) (.cons rfl (.cons rfl (.cons rfl (.cons rfl (.cons rfl (.cons rfl (.nil _))))))) ⟨st, by simp only; omega, ?_, ?_⟩ (by simp only; omega)
          · simp only; rw [hcs, List.find?_append, hfn]; simp [hns]
          · simp only; rw [hcs, longest_snoc, hnl]; simpa using hlg
        · have hbt : beginsB (codeBits v k) (bitsN w x) = true := by simpa using h
          refine X_skip ?_
          refine X_seq ?_
          refine X_seq ?_
          refine X_reg ?_
          refine XR_a (op_move rfl) rfl rfl ?_
          refine XR_a (op_move rfl) rfl rfl ?_
          first | refine XR_a (op_index1 rfl rfl rfl (by omega)) rfl rfl ?_ | refine XR_a (op_index rfl rfl rfl (by omega)) rfl rfl ?_
          refine XR_a (op_ld (hci st.low) rfl rfl rfl) rfl rfl ?_
          refine XR_a (op_move rfl) rfl rfl ?_
          refine XR_a (op_leq rfl rfl) rfl rfl ?_
          refine XR_nil ?_
          refine X_if rfl (fun h => ?_) (fun h => ?_)
          · refine X_seq ?_
            refine X_draw byKind (by kernel_rfl) (by kernel_rfl) ?_
            refine XR_a (op_move rfl) rfl rfl ?_
            refine XR_a (op_move rfl) rfl rfl ?_
            refine XR_a (op_move rfl) rfl rfl ?_
            first | refine XR_a (op_index1 rfl rfl rfl (by omega)) rfl rfl ?_ | refine XR_a (op_index rfl rfl rfl (by omega)) rfl rfl ?_
            refine XR_a (op_ld (hci st.low) rfl rfl rfl) rfl rfl ?_
            refine XR_a (op_assign rfl) rfl rfl ?_
            refine XR_a (op_assign rfl) rfl rfl ?_
            refine XR_a (op_assign rfl) rfl rfl ?_
            refine XR_nil ?_
            refine X_ret (.cons (.tmp rfl) (.cons (.tmp rfl) (.cons (.tmp rfl) .nil))) ?_
            have hrow : rowQ (qcodes ls) w x = symQ (s, turnV v k, k) := by
              have hkw : k ≤ w := by omega
              have hhit : hitQ x (s, turnV v k, k) = true := by rw [← hbs hkw]; exact hbt
              unfold rowQ
              rw [find_some_of (hmemQ (by omega)) (shortQ_iff.2 ⟨hkw, hitQ_iff.1 hhit⟩) fun d hd hh => hitQ_one hQ hd (hmemQ (by omega)) (hitQ_iff.2 (shortQ_iff.1 hh).2) hhit]
            rw [hrow]
            exact ⟨rfl, st.low⟩
          · refine X_skip ?_
            refine X_seq ?_
            have hkw : w < k := by omega
            have hlq : longQ w x (s, turnV v k, k) = true := by rw [← hbl hkw]; exact hbt
            have hns : shortQ w x (s, turnV v k, k) = false := by
              cases hh : shortQ w x (s, turnV v k, k) with
              | false => rfl
              | true => have := (shortQ_iff.1 hh).1; simp only at this; omega
            rw [if_neg (by omega)] at hco
            rw [hco] at hcs
            have hfn2 : (codesTo ls (s + 1)).find? (shortQ w x) = none := by rw [hcs, List.find?_append, hfn]; simp [hns]
            have hlg2 : longest (codesTo ls (s + 1)) w x = max long k := by rw [hcs, longest_snoc, if_pos hlq, ← hlg]
            refine X_reg ?_
            refine XR_a (op_move rfl) rfl rfl ?_
            refine XR_a (op_move rfl) rfl rfl ?_
            first | refine XR_a (op_index1 rfl rfl rfl (by omega)) rfl rfl ?_ | refine XR_a (op_index rfl rfl rfl (by omega)) rfl rfl ?_
            refine XR_a (op_ld (hci st.low) rfl rfl rfl) rfl rfl ?_
            refine XR_a (op_move rfl) rfl rfl ?_
            refine XR_a (op_gtr rfl rfl) rfl rfl ?_
            refine XR_nil ?_
            refine X_if rfl (fun h => ?_) (fun h => ?_)
            · refine X_reg ?_
              refine XR_a (op_move rfl) rfl rfl ?_
              refine XR_a (op_move rfl) rfl rfl ?_
              first | refine XR_a (op_index1 rfl rfl rfl (by omega)) rfl rfl ?_ | refine XR_a (op_index rfl rfl rfl (by omega)) rfl rfl ?_
              refine XR_a (op_ld (hci st.low) rfl rfl rfl) rfl rfl ?_
              refine XR_a (op_assign rfl) rfl rfl ?_
              refine XR_nil ?_
              refine X_blk ?_
              refine X_reg ?_
              refine XR_a (op_move rfl) rfl rfl ?_
              first | refine XR_a (op_addN (n := 1) rfl rfl (by simp only [inK]; omega)) rfl rfl ?_ | refine XR_a (op_addI rfl rfl (by simp only [inK]; omega)) rfl rfl ?_ | refine XR_a (op_add rfl rfl) rfl rfl ?_
              refine XR_a (op_assign rfl) rfl rfl ?_
              refine XR_nil ?_
              exact X_again (s + 1, k) (.cons rfl (.cons rfl (.cons rfl (.cons rfl (.cons rfl (.cons rfl (.nil _))))))) ⟨st, by simp only; omega, hfn2, by simp only; rw [hlg2]; omega⟩ (by simp only; omega)
            · refine X_skip ?_
              refine X_blk ?_
              refine X_reg ?_
              refine XR_a (op_move rfl) rfl rfl ?_
              first | refine XR_a (op_addN (n := 1) rfl rfl (by simp only [inK]; omega)) rfl rfl ?_ | refine XR_a (op_addI rfl rfl (by simp only [inK]; omega)) rfl rfl ?_ | refine XR_a (op_add rfl rfl) rfl rfl ?_
              refine XR_a (op_assign rfl) rfl rfl ?_
              refine XR_nil ?_
              exact X_again (s + 1, long) (.cons rfl (.cons rfl (.cons rfl (.cons rfl (.cons rfl (.cons rfl (.nil _))))))) ⟨st, by simp only; omega, hfn2, by simp only; rw [hlg2]; omega⟩ (by simp only; omega)
    · refine X_exit rfl ?_
      refine X_seq ?_
      obtain rfl : s = n := by omega
      have hqe : codesTo ls s = qcodes ls := by unfold qcodes; rw [hl]
      rw [hqe] at hfn hlg
      have hrow : rowQ (qcodes ls) w x = (0, long, decide (0 < long)) := by unfold rowQ; rw [hfn, ← hlg]
      refine X_reg ?_
      refine XR_a (op_move rfl) rfl rfl ?_
      refine XR_a (op_move rfl) rfl rfl ?_
      refine XR_a (op_gtr rfl rfl) rfl rfl ?_
      refine XR_a (op_assign rfl) rfl rfl ?_
      refine XR_a (op_assign rfl) rfl rfl ?_
      refine XR_a (op_assign rfl) rfl rfl ?_
      refine XR_nil ?_
      refine X_ret (.cons (.tmp rfl) (.cons (.tmp rfl) (.cons (.tmp rfl) .nil))) ?_
      rw [hrow]
      exact ⟨congrArg (fun z => retVal [Value.int .i64 0, .int .i64 (long : Int), .bool z]) (decide_eq_decide.2 (by omega)), st.low⟩
  · refine XR_no rfl rfl ?_
    refine XR_no rfl rfl ?_
    refine XR_no rfl rfl ?_
    refine XR_no rfl rfl ?_
    refine XR_a (op_pick_f rfl rfl) rfl rfl ?_
    refine XR_nil ?_
    refine X_else rfl ?_
    refine X_exit rfl ?_
    refine X_seq ?_
    obtain rfl : s = n := by omega
    have hqe : codesTo ls s = qcodes ls := by unfold qcodes; rw [hl]
    rw [hqe] at hfn hlg
    have hrow : rowQ (qcodes ls) w x = (0, long, decide (0 < long)) := by unfold rowQ; rw [hfn, ← hlg]
    refine X_reg ?_
    refine XR_a (op_move rfl) rfl rfl ?_
    refine XR_a (op_move rfl) rfl rfl ?_
    refine XR_a (op_gtr rfl rfl) rfl rfl ?_
    refine XR_a (op_assign rfl) rfl rfl ?_
    refine XR_a (op_assign rfl) rfl rfl ?_
    refine XR_a (op_assign rfl) rfl rfl ?_
    refine XR_nil ?_
    refine X_ret (.cons (.tmp rfl) (.cons (.tmp rfl) (.cons (.tmp rfl) .nil))) ?_
    rw [hrow]
    exact ⟨congrArg (fun z => retVal [Value.int .i64 0, .int .i64 (long : Int), .bool z]) (decide_eq_decide.2 (by omega)), st.low⟩

theorem rowQ_212 : rowQ (qcodes [2, 1, 2]) 1 0 = (1, 1, false) ∧ rowQ (qcodes [2, 1, 2]) 1 1 = (0, 2, true) := by decide +kernel
theorem size_212 : sizeTo (qcodes [2, 1, 2]) 1 2 = 4 := by
  rw [sizeTo_succ, sizeTo_succ, sizeTo_zero, rowQ_212.1, rowQ_212.2]; rfl
theorem lives34 (h0 : Heap) : Ret Try.prog 35 [] h0 fun v h' => v = .bool true ∧ Ext h0 h' := by
  refine ret_of_X Try.func35 rfl rfl fun w0 hw0 => ?_
  simp only [argE, Nat.zero_add, Nat.reduceAdd]
  have st := St.start h0
  refine X_seq ?_
  refine X_reg ?_
  refine XR_a (op_assign rfl) rfl rfl ?_
  refine XR_nil ?_
  refine X_seq ?_
  refine X_reg ?_
  refine XR_wa (opl_lits [iV 2, iV 1, iV 2] rfl rfl rfl rfl (by kernel_rfl) rfl) rfl rfl rfl ?_
  rintro w hp hnew
  replace st := st.new hnew
  obtain ⟨A3, n3, c3, rfl, hlen3, _, _, hrd3⟩ := st.row 0 rfl
  obtain rfl : n3 = 3 := by simpa using hlen3.symm
  have hR : rightC [2, 1, 2] := by decide
  have hR0 : errC [2, 1, 2] = 0 := errC_zero.2 hR
  refine XR_wa (opl_call (qnew_spec (li := [2, 1, 2]) 1 hrd3 rfl (by decide)) rfl (by kernel_rfl)) rfl rfl rfl ?_
  rintro _ hp2 ⟨w, rfl, hx, hy, _⟩
  obtain ⟨p, rfl, sc⟩ := hy hR
  have hls : ([2, 1, 2] : List Int).map Int.toNat = [2, 1, 2] := rfl
  have hw1 : widthN 1 = 1 := rfl
  rw [hls, hw1] at sc
  have hlow := st.low
  have hx0 : Ext h0 hp2 := Ext.trans st.low hx
  rw [hR0]
  refine XR_a (op_move rfl) rfl rfl ?_
  refine XR_a (op_extract rfl rfl) rfl rfl ?_
  refine XR_a (op_extract rfl rfl) rfl rfl ?_
  refine XR_a (op_assign rfl) rfl rfl ?_
  refine XR_a (op_assign rfl) rfl rfl ?_
  refine XR_nil ?_
  refine X_seq ?_
  refine X_reg ?_
  refine XR_a (op_move rfl) rfl rfl ?_
  refine XR_a (op_eql rfl rfl) rfl rfl ?_
  refine XR_a (op_move rfl) rfl rfl ?_
  refine XR_a (op_move rfl) rfl rfl ?_
  refine XR_wa (opl_call (qrow_spec 0 sc (by decide)) rfl (by kernel_rfl)) rfl rfl rfl ?_
  rintro _ hp3 ⟨rfl, hx3⟩
  have e0 : rowAt (qcodes [2, 1, 2]) 1 0 = (1, 1, false) := by unfold rowAt; rw [if_neg (by decide)]; exact rowQ_212.1
  rw [e0]
  replace sc := sc.ext hx3
  refine XR_a (op_build (ps := [(0, .int .i64 1), (1, .int .i64 1)]) (cs := (rC (1, 1, false)).toArray) rfl rfl) rfl rfl ?_
  refine XR_a (op_eqlH rfl rfl (eq_flat (ks := [.i .i64, .i .i64, .b]) (by kernel_rfl) (by kernel_rfl) rfl rfl) (by kernel_rfl)) rfl rfl ?_
  refine XR_as (.bool true) (congrArg Value.bool (by rw [eqL_rC]; decide)) ?_
  refine XR_a (op_pick_t rfl rfl) rfl rfl ?_
  refine XR_a (op_move rfl) rfl rfl ?_
  refine XR_a (op_move rfl) rfl rfl ?_
  refine XR_wa (opl_call (qrow_spec 1 sc (by decide)) rfl (by kernel_rfl)) rfl rfl rfl ?_
  rintro _ hp4 ⟨rfl, hx4⟩
  have e1 : rowAt (qcodes [2, 1, 2]) 1 1 = (0, 2, true) := by unfold rowAt; rw [if_neg (by decide)]; exact rowQ_212.2
  rw [e1]
  replace sc := sc.ext hx4
  refine XR_a (op_build (ps := [(1, .int .i64 2), (2, .bool true)]) (cs := (rC (0, 2, true)).toArray) rfl rfl) rfl rfl ?_
  refine XR_a (op_eqlH rfl rfl (eq_flat (ks := [.i .i64, .i .i64, .b]) (by kernel_rfl) (by kernel_rfl) rfl rfl) (by kernel_rfl)) rfl rfl ?_
  refine XR_as (.bool true) (congrArg Value.bool (by rw [eqL_rC]; decide)) ?_
  refine XR_a (op_pick_t rfl rfl) rfl rfl ?_
  refine XR_a (op_move rfl) rfl rfl ?_
  refine XR_a (op_move rfl) rfl rfl ?_
  refine XR_wa (opl_call (qsize_spec sc) rfl (by kernel_rfl)) rfl rfl rfl ?_
  rintro _ _ ⟨rfl, rfl⟩
  rw [show 2 ^ 1 = 2 from rfl, size_212]
  refine XR_a (op_eql rfl rfl) rfl rfl ?_
  refine XR_a (op_pick_t rfl rfl) rfl rfl ?_
  refine XR_a (op_move rfl) rfl rfl ?_
  refine XR_a (op_move rfl) rfl rfl ?_
  refine XR_wa (opl_call (qwidth_spec sc) rfl (by kernel_rfl)) rfl rfl rfl ?_
  rintro _ _ ⟨rfl, rfl⟩
  refine XR_a (op_eql rfl rfl) rfl rfl ?_
  refine XR_a (op_pick_t rfl rfl) rfl rfl ?_
  refine XR_a (op_assign rfl) rfl rfl ?_
  refine XR_nil ?_
  refine X_ret (.cons (.tmp rfl) .nil) ?_
  exact ⟨rfl, (hx0.trans hx3).trans hx4⟩
end Go.Bn
