/- The laws CanonBack and CanonApart. -/
import Derived.Test.YtnphdfaihpljlaaLaw08b
import Derived.Test.YtnphdfaihpljlaaOps9
set_option linter.unusedVariables false
set_option linter.unusedSimpArgs false
set_option maxHeartbeats 4000000
set_option maxRecDepth 20000
namespace Go.Bn
open Go Proofs

/-- The symbols that have a code. -/
def putsOf (ls : List Nat) (si : List Int) : List Int := si.filter fun s => decide (lenAt ls s ≠ 0)
def allBits (ls : List Nat) (si : List Int) : List Bool := (putsOf ls si).flatMap (putBits ls)
theorem putsOf_succ {ls : List Nat} {si : List Int} {i : Nat} (h : i < si.length) : putsOf ls (si.take (i + 1)) = putsOf ls (si.take i) ++ if lenAt ls si[i] ≠ 0 then [si[i]] else [] := by
  unfold putsOf
  rw [List.take_succ_eq_append_getElem h, List.filter_append]
  congr 1
  simp only [List.filter_cons, List.filter_nil, decide_eq_true_eq]
theorem allBits_succ {ls : List Nat} {si : List Int} {i : Nat} (h : i < si.length) : allBits ls (si.take (i + 1)) = allBits ls (si.take i) ++ putBits ls si[i] := by
  unfold allBits
  rw [putsOf_succ h, List.flatMap_append]
  congr 1
  split
  · simp
  · rename_i h0
    have h0 : lenAt ls si[i] = 0 := by omega
    unfold putBits
    rw [h0]; rfl
theorem allBits_len {ls : List Nat} (hok : lensOK ls) : ∀ l : List Int, (l.flatMap (putBits ls)).length ≤ 15 * l.length
  | [] => by simp
  | s :: l => by
    have := allBits_len hok l
    have := putBits_len hok s
    simp only [List.flatMap_cons, List.length_append, List.length_cons]; omega
/-- Where the i-th one begins, it is taken. -/
theorem takeC_at {ls : List Nat} (hok : lensOK ls) (P : List Int) (hP : ∀ s ∈ P, lenAt ls s ≠ 0) {i : Nat} (hi : i < P.length) (z : List Bool) :
    ∃ t : Nat, P[i] = t ∧ takeC ls ((P.flatMap (putBits ls) ++ z).drop ((P.take i).flatMap (putBits ls)).length) = (t, lenAt ls P[i], 0) ∧ ((P.take (i + 1)).flatMap (putBits ls)).length = ((P.take i).flatMap (putBits ls)).length + lenAt ls P[i] := by
  obtain ⟨t, ht, hlt, hle⟩ := lenAt_pos (hP P[i] (List.getElem_mem hi))
  refine ⟨t, ht, ?_, ?_⟩
  · have e : P = P.take i ++ P[i] :: P.drop (i + 1) := by rw [← List.drop_eq_getElem_cons hi, List.take_append_drop]
    have e2 : P.flatMap (putBits ls) ++ z = (P.take i).flatMap (putBits ls) ++ (putBits ls P[i] ++ ((P.drop (i + 1)).flatMap (putBits ls) ++ z)) := by
      conv => lhs; rw [e]
      rw [List.flatMap_append, List.flatMap_cons, List.append_assoc, List.append_assoc]
    rw [e2, List.drop_left]
    unfold putBits
    rw [hle, ht, Int.toNat_natCast]
    exact takeC_put hok hlt (by rw [← hle]; exact hP P[i] (List.getElem_mem hi)) _
  · rw [List.take_succ_eq_append_getElem hi, List.flatMap_append, List.length_append]
    simp only [List.flatMap_cons, List.flatMap_nil, List.append_nil]
    unfold putBits
    rw [codeBits_length]

theorem canonBack_ret {n c n2 c2 : Nat} {A A2 : Option Addr} {li si : List Int} {h0 : Heap} (hr : Rd h0 A (li.map iV)) (hl : li.length = n) (hn : n ≤ 17592186044416) (hrs : Rd h0 A2 (si.map iV)) (hls : si.length = n2) :
    Ret Try.prog 9 [.slice A n c, .slice A2 n2 c2] h0 fun v h' => v = .bool true ∧ Ext h0 h' := by
  refine ret_of_X Try.func9 rfl rfl fun w0 hw0 => ?_
  simp only [argE, Nat.zero_add, Nat.reduceAdd]
  refine X_seq ?_
  refine X_reg ?_
  refine XR_a (op_assign rfl) rfl rfl ?_
  by_cases hR : rightC li
  · refine XR_nil ?_
    refine X_seq ?_
    refine X_reg ?_
    refine XR_a (op_move rfl) rfl rfl ?_
    refine XR_wa (opl_call (cnew_spec hr hl hn) rfl (by kernel_rfl)) rfl rfl rfl ?_
    rintro _ hp2 ⟨w2, rfl, hx2, hy2, _⟩
    obtain ⟨p, rfl, st⟩ := hy2 hR
    rw [errC_pos hR]
    refine XR_a (op_move rfl) rfl rfl ?_
    refine XR_a (op_extract rfl rfl) rfl rfl ?_
    refine XR_a (op_extract rfl rfl) rfl rfl ?_
    refine XR_a (op_assign rfl) rfl rfl ?_
    refine XR_a (op_assign rfl) rfl rfl ?_
    refine XR_nil ?_
    refine X_seq ?_
    refine X_seq ?_
    refine X_reg ?_
    refine XR_a (op_move rfl) rfl rfl ?_
    refine XR_a (op_neq rfl rfl) rfl rfl ?_
    refine XR_a (op_move rfl) rfl rfl ?_
    refine XR_a (op_move rfl) rfl rfl ?_
    refine XR_a (op_len rfl rfl rfl) rfl rfl ?_
    refine XR_a (op_gtr rfl rfl) rfl rfl ?_
    refine XR_a (op_pick_f rfl rfl) rfl rfl ?_
    refine XR_a (op_move rfl) rfl rfl ?_
    refine XR_if 26 rfl (fun h => ?_) (fun h => ?_)
    · refine XR_no rfl rfl ?_
      refine XR_no rfl rfl ?_
      refine XR_no rfl rfl ?_
      refine XR_a (op_pick_t rfl rfl) rfl rfl ?_
      refine XR_nil ?_
      refine X_then rfl ?_
      refine X_seq ?_
      refine X_reg ?_
      refine XR_wa (opl_call (lives08 _) rfl (by kernel_rfl)) rfl rfl rfl ?_
      rintro _ hp ⟨rfl, hx⟩
      refine XR_a (op_assign rfl) rfl rfl ?_
      refine XR_nil ?_
      refine X_ret (.cons (.tmp rfl) .nil) ?_
      exact ⟨rfl, hx2.trans hx⟩
    · refine XR_a (op_move rfl) rfl rfl ?_
      refine XR_a (op_len rfl rfl rfl) rfl rfl ?_
      refine XR_a (op_gtr rfl rfl) rfl rfl ?_
      refine XR_a (op_pick_f rfl rfl) rfl rfl ?_
      refine XR_nil ?_
      refine X_if rfl (fun h => ?_) (fun h => ?_)
      · refine X_seq ?_
        refine X_reg ?_
        refine XR_wa (opl_call (lives08 _) rfl (by kernel_rfl)) rfl rfl rfl ?_
        rintro _ hp ⟨rfl, hx⟩
        refine XR_a (op_assign rfl) rfl rfl ?_
        refine XR_nil ?_
        refine X_ret (.cons (.tmp rfl) .nil) ?_
        exact ⟨rfl, hx2.trans hx⟩
      · refine X_skip ?_
        refine X_seq ?_
        refine X_reg ?_
        have hok := hR.ok
        obtain ⟨ls, hl3⟩ : ∃ ls, li.map Int.toNat = ls := ⟨_, rfl⟩
        rw [hl3] at hok st
        refine XR_wa (opl_new rfl) rfl rfl rfl ?_
        rintro _ hp ⟨q, rfl, hnew⟩
        replace st := (st.new hnew).wr0
        refine XR_nil ?_
        refine X_seq ?_
        refine X_reg ?_
        refine XR_a (op_assign rfl) rfl rfl ?_
        refine XR_nil ?_
        refine X_seq ?_
        refine X_seq ?_
        refine X_reg ?_
        refine XR_a (op_assign rfl) rfl rfl ?_
        refine XR_nil ?_
        refine X_block ?_
        replace st := (st.nilrow 3 1).re 3 [1, 2, 0] (by decide)
        simp only [List.map_cons, List.map_nil, getR] at st
        refine X_loop (fun s => n2 - s.1) (fun s => [(0, .slice A n c), (1, .slice A2 n2 c2), (5, .pointer (some ⟨p, 0, none⟩)), (7, .pointer (some ⟨q, 0, none⟩)), (8, s.2), (9, .int .i64 (s.1 : Nat))])
          (fun (s : Nat × Value) hp => St h0.size h0 hp [wrR q (allBits ls (si.take s.1)), codeR p ls, row 3 1 s.2 ((putsOf ls (si.take s.1)).map iV)] ∧ s.1 ≤ n2)
          (0, _) (.cons rfl (.cons rfl (.cons rfl (.cons rfl (.cons rfl (.cons rfl (.nil _))))))) ⟨st, by simp⟩ ?_
        clear st hnew
        rintro ⟨i, w⟩ hp ⟨st, hi⟩
        simp only at st hi ⊢
        refine X_seq ?_
        refine X_seq ?_
        refine X_reg ?_
        refine XR_a (op_move rfl) rfl rfl ?_
        refine XR_a (op_move rfl) rfl rfl ?_
        refine XR_a (op_len rfl rfl rfl) rfl rfl ?_
        refine XR_a (op_lss rfl rfl) rfl rfl ?_
        refine XR_nil ?_
        refine X_if rfl (fun h => ?_) (fun h => ?_)
        · have hlt : i < si.length := by omega
          obtain ⟨g2, o2, rfl, hc2⟩ := hrs.at_ (by rw [List.length_map]; omega)
          have hci := hc2 i (iV si[i]) (by simp [hlt])
          have hps := putsOf_succ (ls := ls) hlt
          have hbs := allBits_succ (ls := ls) hlt
          have hbl : (allBits ls (si.take i)).length ≤ 900 := by
            have h1 := allBits_len hok (putsOf ls (si.take i))
            have h2 : (putsOf ls (si.take i)).length ≤ 60 := Nat.le_trans (List.length_filter_le _ _) (by rw [List.length_take]; omega)
            unfold allBits; omega
          have hpl : (putsOf ls (si.take i)).length ≤ 60 := Nat.le_trans (List.length_filter_le _ _) (by rw [List.length_take]; omega)
          obtain ⟨s, hs⟩ : ∃ s, si[i] = s := ⟨_, rfl⟩
          rw [hs] at hci hps hbs
          refine X_skip ?_
          refine X_seq ?_
          refine X_block ?_
          refine X_seq ?_
          refine X_reg ?_
          refine XR_a (op_move rfl) rfl rfl ?_
          refine XR_a (op_move rfl) rfl rfl ?_
          refine XR_a (op_move rfl) rfl rfl ?_
          first | refine XR_a (op_index1 rfl rfl rfl (by omega)) rfl rfl ?_ | refine XR_a (op_index rfl rfl rfl (by omega)) rfl rfl ?_
          refine XR_a (op_ld (cellH_ext (a := ⟨g2, o2 + i, none⟩) st.low hci) rfl rfl rfl) rfl rfl ?_
          refine XR_wa (opl_call (cput_spec st.here hok (by omega)) rfl (by kernel_rfl)) rfl rfl rfl ?_
          rintro _ hp ⟨rfl, st2⟩
          replace st := st.trans st2
          rw [show allBits ls (si.take i) ++ codeBits (val ls s.toNat) (lenAt ls s) = allBits ls (si.take (i + 1)) from hbs.symm] at st
          refine XR_nil ?_
          refine X_if rfl (fun h => ?_) (fun h => ?_)
          · refine X_reg ?_
            refine XR_a (op_move rfl) rfl rfl ?_
            refine XR_a (op_move rfl) rfl rfl ?_
            refine XR_a (op_move rfl) rfl rfl ?_
            first | refine XR_a (op_index1 rfl rfl rfl (by omega)) rfl rfl ?_ | refine XR_a (op_index rfl rfl rfl (by omega)) rfl rfl ?_
            refine XR_a (op_ld (cellH_ext (a := ⟨g2, o2 + i, none⟩) st.low hci) rfl rfl rfl) rfl rfl ?_
            refine XR_wa (opl_var1 rfl rfl rfl) rfl rfl rfl ?_
            rintro _ hp ⟨A, rfl, hx, hrd⟩
            have st := st.ext hx
            refine XR_wa (opl_append st 2 rfl (hrd) (rfl) (by intro u hu; simp at hu; subst hu; rfl) (by simp; omega) rfl rfl rfl rfl rfl rfl rfl) rfl rfl rfl fun v hp st => ?_
            simp only [List.set_cons_zero, List.set_cons_succ] at st
            rw [if_pos h] at hps
            rw [show [iV s] = ([s] : List Int).map iV from rfl, ← List.map_append, ← hps] at st
            refine XR_a (op_assign rfl) rfl rfl ?_
            refine XR_nil ?_
            refine X_blk ?_
            refine X_reg ?_
            refine XR_a (op_move rfl) rfl rfl ?_
            first | refine XR_a (op_addN (n := 1) rfl rfl (by simp only [inK]; omega)) rfl rfl ?_ | refine XR_a (op_addI rfl rfl (by simp only [inK]; omega)) rfl rfl ?_ | refine XR_a (op_add rfl rfl) rfl rfl ?_
            refine XR_a (op_assign rfl) rfl rfl ?_
            refine XR_nil ?_
            exact X_again (i + 1, _) (.cons rfl (.cons rfl (.cons rfl (.cons rfl (.cons rfl (.cons rfl (.nil _))))))) ⟨st, by simp only; omega⟩ (by simp only; omega)
          · refine X_skip ?_
            refine X_blk ?_
            refine X_reg ?_
            refine XR_a (op_move rfl) rfl rfl ?_
            first | refine XR_a (op_addN (n := 1) rfl rfl (by simp only [inK]; omega)) rfl rfl ?_ | refine XR_a (op_addI rfl rfl (by simp only [inK]; omega)) rfl rfl ?_ | refine XR_a (op_add rfl rfl) rfl rfl ?_
            refine XR_a (op_assign rfl) rfl rfl ?_
            refine XR_nil ?_
            rw [if_neg h, List.append_nil] at hps
            rw [← hps] at st
            exact X_again (i + 1, w) (.cons rfl (.cons rfl (.cons rfl (.cons rfl (.cons rfl (.cons rfl (.nil _))))))) ⟨st, by simp only; omega⟩ (by simp only; omega)
        · rw [List.take_of_length_le (by omega)] at st
          have hP : ∀ s ∈ putsOf ls si, lenAt ls s ≠ 0 := fun s hs => by simpa using (List.mem_filter.1 hs).2
          have hPl : (putsOf ls si).length ≤ 60 := Nat.le_trans (List.length_filter_le _ _) (by omega)
          have hbl := allBits_len hok (putsOf ls si)
          have hbe : allBits ls si = (putsOf ls si).flatMap (putBits ls) := rfl
          rw [hbe] at st
          obtain ⟨P, hPe⟩ : ∃ P, putsOf ls si = P := ⟨_, rfl⟩
          rw [hPe] at st hP hPl hbl
          have hpk := bitsB_pack (P.flatMap (putBits ls))
          have hpkl := pack_length (P.flatMap (putBits ls))
          obtain ⟨bs, hbs⟩ : ∃ bs, P.flatMap (putBits ls) = bs := ⟨_, rfl⟩
          have htk := fun i (hi : i < P.length) => takeC_at hok P hP hi (List.replicate ((8 - bs.length % 8) % 8) false)
          rw [hbs] at st hpk hpkl htk hbl
          refine X_exit rfl ?_
          refine X_seq ?_
          refine X_reg ?_
          refine XR_wa (opl_call (wbytes_spec st.here (by omega)) rfl (by kernel_rfl)) rfl rfl rfl ?_
          rintro v3 hp st3
          replace st := st.join st3
          simp only [List.cons_append, List.nil_append] at st
          obtain ⟨A3, n3, c3, rfl, hlen3, _, _, _⟩ := st.row 0 rfl
          rw [List.length_map] at hlen3
          refine XR_wa (opl_call (rnew_spec) rfl (by kernel_rfl)) rfl rfl rfl ?_
          rintro _ hp ⟨r, rfl, st4⟩
          replace st := st.join st4
          simp only [List.cons_append, List.nil_append] at st
          refine XR_a (op_assign rfl) rfl rfl ?_
          refine XR_nil ?_
          refine X_seq ?_
          refine X_seq ?_
          refine X_reg ?_
          refine XR_a (op_assign rfl) rfl rfl ?_
          refine XR_nil ?_
          refine X_block ?_
          replace st := st.re 5 [0, 3, 1, 2, 4] (by decide)
          simp only [List.map_cons, List.map_nil, getR] at st
          refine X_loop (fun i => P.length - i) (fun i => [(5, .pointer (some ⟨p, 0, none⟩)), (8, w), (10, .pointer (some ⟨r, 0, none⟩)), (11, .int .i64 (i : Nat))])
            (fun (i : Nat) hp => St h0.size h0 hp [rdG r A3 n3 c3 ((P.take i).flatMap (putBits ls)).length, codeR p ls, row 5 1 (.slice A3 n3 c3) ((pack bs).map byteV), wrR q bs, row 3 1 w (P.map iV)] ∧ i ≤ P.length)
            0 (.cons rfl (.cons rfl (.cons rfl (.cons rfl (.nil _))))) ⟨st, by omega⟩ ?_
          clear st st3 st4
          rintro i hp ⟨st, hi⟩
          have hbt : ((P.take i).flatMap (putBits ls)).length ≤ bs.length := by
            rw [← hbs]
            conv => rhs; rw [← List.take_append_drop i P, List.flatMap_append, List.length_append]
            omega
          obtain ⟨A5, n5, c5, rfl, hlen5, _, _, hrd5⟩ := st.row 4 rfl
          rw [List.length_map] at hlen5
          refine X_seq ?_
          refine X_seq ?_
          refine X_reg ?_
          refine XR_a (op_move rfl) rfl rfl ?_
          refine XR_a (op_move rfl) rfl rfl ?_
          refine XR_a (op_len rfl rfl rfl) rfl rfl ?_
          refine XR_a (op_lss rfl rfl) rfl rfl ?_
          refine XR_nil ?_
          refine X_if rfl (fun h => ?_) (fun h => ?_)
          · have hilt : i < P.length := by omega
            obtain ⟨t, ht, htake, hadv⟩ := htk i hilt
            rw [← hpk] at htake
            obtain ⟨g5, o5, rfl, hc5⟩ := hrd5.at_ (by rw [List.length_map]; omega)
            refine X_skip ?_
            refine X_seq ?_
            refine X_block ?_
            refine X_seq ?_
            refine X_reg ?_
            refine XR_a (op_move rfl) rfl rfl ?_
            refine XR_a (op_move rfl) rfl rfl ?_
            refine XR_wa (opl_call (ctake_spec st.here hok (st.rdS 2 rfl).2 (by omega) (by omega) (by omega)) rfl (by kernel_rfl)) rfl rfl rfl ?_
            rintro _ hp ⟨rfl, st2⟩
            replace st := st.trans st2
            rw [htake] at st ⊢
            obtain ⟨g6, o6, e6, hc6⟩ := (st.rdS 4 rfl).2.at_ (by rw [List.length_map]; omega)
            cases e6
            refine XR_a (op_move rfl) rfl rfl ?_
            refine XR_a (op_extract rfl rfl) rfl rfl ?_
            refine XR_a (op_extract rfl rfl) rfl rfl ?_
            refine XR_a (op_assign rfl) rfl rfl ?_
            refine XR_a (op_assign rfl) rfl rfl ?_
            refine XR_nil ?_
            refine X_seq ?_
            refine X_reg ?_
            refine XR_a (op_move rfl) rfl rfl ?_
            refine XR_a (op_neq rfl rfl) rfl rfl ?_
            refine XR_a (op_move rfl) rfl rfl ?_
            refine XR_a (op_move rfl) rfl rfl ?_
            refine XR_a (op_move rfl) rfl rfl ?_
            refine XR_a (op_move rfl) rfl rfl ?_
            first | refine XR_a (op_index1 rfl rfl rfl (by omega)) rfl rfl ?_ | refine XR_a (op_index rfl rfl rfl (by omega)) rfl rfl ?_
            refine XR_a (op_ld (hc6 i (iV P[i]) (by simp [hilt])) rfl rfl rfl) rfl rfl ?_
            refine XR_a (op_neq rfl rfl) rfl rfl ?_
            refine XR_as (.bool false) (by rw [ht]; simp) ?_
            refine XR_a (op_pick_f rfl rfl) rfl rfl ?_
            refine XR_nil ?_
            refine X_else rfl ?_
            refine X_skip ?_
            refine X_blk ?_
            refine X_reg ?_
            refine XR_a (op_move rfl) rfl rfl ?_
            first | refine XR_a (op_addN (n := 1) rfl rfl (by simp only [inK]; omega)) rfl rfl ?_ | refine XR_a (op_addI rfl rfl (by simp only [inK]; omega)) rfl rfl ?_ | refine XR_a (op_add rfl rfl) rfl rfl ?_
            refine XR_a (op_assign rfl) rfl rfl ?_
            refine XR_nil ?_
            exact X_again (i + 1) (.cons rfl (.cons rfl (.cons rfl (.cons rfl (.nil _))))) ⟨by rw [hadv]; exact st, by omega⟩ (by omega)
          · obtain rfl : i = P.length := by omega
            rw [List.take_of_length_le (Nat.le_refl _), hbs] at st
            refine X_exit rfl ?_
            refine X_seq ?_
            refine X_reg ?_
            refine XR_a (op_move rfl) rfl rfl ?_
            refine XR_wa (opl_call (rleft_spec (st.cell 0 rfl rfl) (st.cell 0 rfl rfl) (by omega) (by omega)) rfl (by kernel_rfl)) rfl rfl rfl ?_
            rintro _ _ ⟨rfl, rfl⟩
            refine XR_a (op_lss rfl rfl) rfl rfl ?_
            refine XR_as (.bool true) (congrArg Value.bool (decide_eq_true (by omega))) ?_
            refine XR_a (op_move rfl) rfl rfl ?_
            refine XR_wa (opl_call (lives08 _) rfl (by kernel_rfl)) rfl rfl rfl ?_
            rintro _ hp ⟨rfl, hx⟩
            refine XR_a (op_pick_t rfl rfl) rfl rfl ?_
            refine XR_a (op_assign rfl) rfl rfl ?_
            refine XR_nil ?_
            refine X_ret (.cons (.tmp rfl) .nil) ?_
            exact ⟨rfl, Ext.trans st.low hx⟩
  · refine XR_nil ?_
    refine X_seq ?_
    refine X_reg ?_
    refine XR_a (op_move rfl) rfl rfl ?_
    refine XR_wa (opl_call (cnew_spec hr hl hn) rfl (by kernel_rfl)) rfl rfl rfl ?_
    rintro _ hp2 ⟨w2, rfl, hx2, _, hz2⟩
    obtain rfl := hz2 hR
    rw [errC_neg hR]
    refine XR_a (op_move rfl) rfl rfl ?_
    refine XR_a (op_extract rfl rfl) rfl rfl ?_
    refine XR_a (op_extract rfl rfl) rfl rfl ?_
    refine XR_a (op_assign rfl) rfl rfl ?_
    refine XR_a (op_assign rfl) rfl rfl ?_
    refine XR_nil ?_
    refine X_seq ?_
    refine X_seq ?_
    refine X_reg ?_
    refine XR_a (op_move rfl) rfl rfl ?_
    refine XR_a (op_neq rfl rfl) rfl rfl ?_
    refine XR_a (op_move rfl) rfl rfl ?_
    refine XR_no rfl rfl ?_
    refine XR_no rfl rfl ?_
    refine XR_no rfl rfl ?_
    refine XR_a (op_pick_t rfl rfl) rfl rfl ?_
    refine XR_a (op_move rfl) rfl rfl ?_
    refine XR_no rfl rfl ?_
    refine XR_no rfl rfl ?_
    refine XR_no rfl rfl ?_
    refine XR_a (op_pick_t rfl rfl) rfl rfl ?_
    refine XR_nil ?_
    refine X_then rfl ?_
    refine X_seq ?_
    refine X_reg ?_
    refine XR_wa (opl_call (lives08 _) rfl (by kernel_rfl)) rfl rfl rfl ?_
    rintro _ hp ⟨rfl, hx⟩
    refine XR_a (op_assign rfl) rfl rfl ?_
    refine XR_nil ?_
    refine X_ret (.cons (.tmp rfl) .nil) ?_
    exact ⟨rfl, hx2.trans hx⟩
end Go.Bn
