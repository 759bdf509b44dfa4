/- The contracts of quick's fill and deepen. -/
import Derived.Test.YtnphdfaihpljlaaQuick
set_option linter.unusedVariables false
set_option linter.unusedSimpArgs false
set_option maxHeartbeats 4000000
set_option maxRecDepth 20000
namespace Go.Bn
open Go Proofs

theorem fill_spec {B gb n cap past : Nat} {R : Nat → QR} {c : QC} {F : List Res} {h0 : Heap} (st : St B h0 h0 (row 58 3 (.slice (some ⟨gb, 0, none⟩) n cap) (cellsR R n) :: F)) (hn : n ≤ 32768) (hc : c.2.2 ≤ 15) (hp : past ≤ c.2.2) (hb : c.2.1 < 2 ^ c.2.2) :
    Ret Try.prog 74 [.slice (some ⟨gb, 0, none⟩) n cap, .agg (cC c).toArray, .int .i64 (past : Int)] h0
      fun v h' => v = .tuple #[] ∧ St B h0 h' (row 58 3 (.slice (some ⟨gb, 0, none⟩) n cap) (cellsR (fun m => if m % 2 ^ (c.2.2 - past) = c.2.1 / 2 ^ past then symQ c else R m) n) :: F) := by
  obtain ⟨s, b, k⟩ := c
  simp only at hc hp hb ⊢
  have hbl : b / 2 ^ past < 2 ^ (k - past) := by
    refine (Nat.div_lt_iff_lt_mul (Nat.pow_pos (by omega))).2 ?_
    rw [← Nat.pow_add, show k - past + past = k by omega]; exact hb
  have hs2 : 2 ^ (k - past) ≤ 32768 := Nat.pow_le_pow_right (n := 2) (by omega) (show k - past ≤ 15 by omega)
  have hb2 : 2 ^ k ≤ 32768 := Nat.pow_le_pow_right (n := 2) (by omega) hc
  obtain ⟨b0, hb0⟩ : ∃ b0, b / 2 ^ past = b0 := ⟨_, rfl⟩
  obtain ⟨stp, hstp⟩ : ∃ stp, 2 ^ (k - past) = stp := ⟨_, rfl⟩
  rw [hb0, hstp] at hbl ⊢
  rw [hstp] at hs2
  have hstp0 : 0 < stp := by rw [← hstp]; exact Nat.pow_pos (by omega)
  refine ret_of_X Try.func74 rfl rfl fun w0 hw0 => ?_
  simp only [argE, Nat.zero_add, Nat.reduceAdd]
  refine X_seq ?_
  refine X_reg ?_
  refine XR_wa (opl_bx rfl rfl) rfl rfl rfl ?_
  rintro _ hp ⟨pc, rfl, hnew⟩
  replace st := st.new hnew
  refine XR_nil ?_
  refine X_seq ?_
  refine X_reg ?_
  first | refine XR_a (op_field0 rfl rfl) rfl rfl ?_ | refine XR_a (op_fieldn rfl rfl) rfl rfl ?_
  refine XR_a (op_ld (st.cell 0 (i := 2) rfl rfl) rfl rfl rfl) rfl rfl ?_
  refine XR_a (op_move rfl) rfl rfl ?_
  refine XR_a (op_subN (m := k) (n := past) rfl rfl (by omega) (by simp only [inK]; omega)) rfl rfl ?_
  refine XR_a (op_shlC (m := 1) (k - past) rfl rfl (by simp only [IntKind.bits]; omega) (by rw [hstp]; simp only [inK]; omega)) rfl rfl ?_
  refine XR_as (.int .i64 (stp : Nat)) (by rw [Nat.one_mul, hstp]) ?_
  refine XR_a (op_assign rfl) rfl rfl ?_
  refine XR_nil ?_
  refine X_seq ?_
  refine X_reg ?_
  first | refine XR_a (op_field0 rfl rfl) rfl rfl ?_ | refine XR_a (op_fieldn rfl rfl) rfl rfl ?_
  refine XR_a (op_ld (st.cell 0 (i := 1) rfl rfl) rfl rfl rfl) rfl rfl ?_
  refine XR_a (op_move rfl) rfl rfl ?_
  refine XR_a (op_shrC (m := b) past rfl rfl (by simp only [IntKind.bits]; omega)) rfl rfl ?_
  refine XR_as (.int .i64 (b0 : Nat)) (by rw [hb0]) ?_
  refine XR_a (op_assign rfl) rfl rfl ?_
  refine XR_nil ?_
  refine X_block ?_
  refine X_loop (fun m => 65536 - m) (fun m => [(0, .slice (some ⟨gb, 0, none⟩) n cap), (4, .pointer (some ⟨pc, 0, none⟩)), (6, .int .i64 (stp : Nat)), (7, .int .i64 (m : Nat))])
    (fun (m : Nat) hp => St B h0 hp (pt pc 111 (cC (s, b, k)) :: row 58 3 (.slice (some ⟨gb, 0, none⟩) n cap) (cellsR (fun i => if i < m ∧ i % stp = b0 then symQ (s, b, k) else R i) n) :: F) ∧ m % stp = b0 ∧ m ≤ 65535)
    b0 (.cons rfl (.cons rfl (.cons rfl (.cons rfl (.nil _))))) ⟨?_, Nat.mod_eq_of_lt hbl, by omega⟩ ?_
  · have e : cellsR (fun i => if i < b0 ∧ i % stp = b0 then symQ (s, b, k) else R i) n = cellsR R n := cellsR_congr fun i _ => if_neg fun hh => by have := Nat.mod_le i stp; omega
    rw [e]; exact st
  clear st hnew
  rintro m hp ⟨st, hm, hm2⟩
  refine X_seq ?_
  refine X_seq ?_
  refine X_reg ?_
  refine XR_a (op_move rfl) rfl rfl ?_
  refine XR_a (op_move rfl) rfl rfl ?_
  refine XR_a (op_len rfl rfl rfl) rfl rfl ?_
  refine XR_a (op_lss rfl rfl) rfl rfl ?_
  refine XR_nil ?_
  refine X_if rfl (fun h => ?_) (fun h => ?_)
  · have hcl := cellsR_len (fun i => if i < m ∧ i % stp = b0 then symQ (s, b, k) else R i) n
    refine X_skip ?_
    refine X_seq ?_
    refine X_block ?_
    refine X_reg ?_
    refine XR_a (op_move rfl) rfl rfl ?_
    refine XR_a (op_move rfl) rfl rfl ?_
    first | refine XR_a (op_field0 rfl rfl) rfl rfl ?_ | refine XR_a (op_fieldn rfl rfl) rfl rfl ?_
    refine XR_a (op_ld (st.cell 0 (i := 0) rfl rfl) rfl rfl rfl) rfl rfl ?_
    first | refine XR_a (op_field0 rfl rfl) rfl rfl ?_ | refine XR_a (op_fieldn rfl rfl) rfl rfl ?_
    refine XR_a (op_ld (st.cell 0 (i := 2) rfl rfl) rfl rfl rfl) rfl rfl ?_
    refine XR_a (op_build (ps := [(0, nV s), (1, nV k)]) (cs := (rC (symQ (s, b, k))).toArray) rfl rfl) rfl rfl ?_
    refine XR_a (op_index (i := m) rfl rfl rfl (by omega)) rfl rfl ?_
    refine XR_wn (opl_store_rows (us := rC (symQ (s, b, k))) (o := m * 3) st 1 rfl (congrArg (fun x => some (Value.pointer (some ⟨gb, x, none⟩))) (Nat.zero_add _)) rfl rfl rfl (one_rC _) (by rw [hcl]; simp; omega)) rfl rfl fun _ hp st => ?_
    simp only [List.set_cons_zero, List.set_cons_succ] at st
    rw [show (rC (symQ (s, b, k))).length = 3 from rfl, cellsR_set _ (by omega)] at st
    refine XR_nil ?_
    refine X_blk ?_
    refine X_reg ?_
    refine XR_a (op_move rfl) rfl rfl ?_
    refine XR_a (op_move rfl) rfl rfl ?_
    first | refine XR_a (op_addN rfl rfl (by simp only [inK]; omega)) rfl rfl ?_ | refine XR_a (op_addI rfl rfl (by simp only [inK]; omega)) rfl rfl ?_ | refine XR_a (op_add rfl rfl) rfl rfl ?_
    refine XR_a (op_assign rfl) rfl rfl ?_
    refine XR_nil ?_
    refine X_again (m + stp) (.cons rfl (.cons rfl (.cons rfl (.cons rfl (.nil _))))) ⟨?_, by rw [Nat.add_mod_right]; exact hm, by omega⟩ (by omega)
    have e : cellsR (fun i => if i = m then symQ (s, b, k) else if i < m ∧ i % stp = b0 then symQ (s, b, k) else R i) n = cellsR (fun i => if i < m + stp ∧ i % stp = b0 then symQ (s, b, k) else R i) n := by
      refine cellsR_congr fun i _ => ?_
      by_cases h1 : i = m
      · subst h1; rw [if_pos rfl, if_pos ⟨by omega, hm⟩]
      · rw [if_neg h1]
        by_cases h2 : i < m ∧ i % stp = b0
        · rw [if_pos h2, if_pos ⟨by omega, h2.2⟩]
        · rw [if_neg h2, if_neg]
          rintro ⟨h3, h4⟩
          rcases Nat.lt_or_ge i m with h5 | h5
          · exact h2 ⟨h5, h4⟩
          · have h6 : (i - m) % stp = 0 := by
              have e1 := Nat.div_add_mod i stp
              have e2 := Nat.div_add_mod m stp
              rw [h4] at e1; rw [hm] at e2
              have e3 : i - m = stp * (i / stp - m / stp) := by rw [Nat.mul_sub]; omega
              rw [e3]; exact Nat.mul_mod_right _ _
            rw [Nat.mod_eq_of_lt (by omega)] at h6
            omega
    rw [← e]; exact st
  · refine X_exit rfl ?_
    refine X_end .nil ?_
    refine ⟨rfl, ?_⟩
    have e : cellsR (fun i => if i < m ∧ i % stp = b0 then symQ (s, b, k) else R i) n = cellsR (fun i => if i % stp = b0 then symQ (s, b, k) else R i) n := by
      refine cellsR_congr fun i hi => ?_
      by_cases h1 : i % stp = b0
      · rw [if_pos h1, if_pos ⟨by omega, h1⟩]
      · rw [if_neg h1, if_neg (fun hh => h1 hh.2)]
    rw [e] at st
    exact st.tail

/-- A table's block. -/
@[reducible] def tabC (w : Nat) (vr : Value) (pm : Nat) (vc : Value) (sz : Nat) : List Value := [nV w, vr, .map (some pm), vc, nV sz]
theorem and_low (x w : Nat) : x &&& (2 ^ w - 1) = x % 2 ^ w := Nat.and_two_pow_sub_one_eq_mod x w

theorem deepen_spec {B p pm w m L sz gr nr cr : Nat} {vc : Value} {Q : List QC} {R : Nat → QR} {l : List (Int × Value)} {F : List Res} {h0 : Heap}
    (st : St B h0 h0 (pt p 109 (tabC w (.slice (some ⟨gr, 0, none⟩) nr cr) pm vc sz) :: row 58 3 (.slice (some ⟨gr, 0, none⟩) nr cr) (cellsR R nr) :: mapR pm l :: row 111 3 vc (Q.flatMap cC) :: F))
    (hQ : QOk Q) (hw : 1 ≤ w ∧ w ≤ 15) (hm : m < 2 ^ w) (hL : w < L ∧ L ≤ 15) (hge : ∀ c ∈ Q, longQ w m c = true → c.2.2 ≤ L) (hnr : nr = 2 ^ w) (hfresh : ∀ q ∈ l, q.1 ≠ (m : Int)) (hsz : sz ≤ 4294967296) (hql : Q.length ≤ 1000) :
    Ret Try.prog 75 [.pointer (some ⟨p, 0, none⟩), .int .i64 (m : Int), .agg (rC (0, L, true)).toArray] h0
      fun v h' => v = .tuple #[] ∧ ∃ vm, St B h0 h' (row 58 3 vm (cellsR (moreQ Q w m) (2 ^ (L - w))) :: pt p 109 (tabC w (.slice (some ⟨gr, 0, none⟩) nr cr) pm vc (sz + 2 ^ (L - w))) :: row 58 3 (.slice (some ⟨gr, 0, none⟩) nr cr) (cellsR R nr) :: mapR pm (l ++ [((m : Int), vm)]) :: row 111 3 vc (Q.flatMap cC) :: F) := by
  have hpL : 2 ^ (L - w) ≤ 32768 := Nat.pow_le_pow_right (n := 2) (by omega) (show L - w ≤ 15 by omega)
  have hpw : 2 ^ w ≤ 32768 := Nat.pow_le_pow_right (n := 2) (by omega) hw.2
  have hpw0 : 0 < 2 ^ w := Nat.pow_pos (by omega)
  have hpL0 : 0 < 2 ^ (L - w) := Nat.pow_pos (by omega)
  obtain ⟨Ac, nc, cc, rfl, hlenc, _, _, _⟩ := st.row 3 rfl
  rw [flat_length _ 3 (fun _ => rfl)] at hlenc
  refine ret_of_X Try.func75 rfl rfl fun w0 hw0 => ?_
  simp only [argE, Nat.zero_add, Nat.reduceAdd]
  refine X_seq ?_
  refine X_reg ?_
  refine XR_wa (opl_bx rfl rfl) rfl rfl rfl ?_
  rintro _ hp ⟨pc, rfl, hnew⟩
  replace st := st.new hnew
  refine XR_nil ?_
  refine X_seq ?_
  refine X_draw byKind (by kernel_rfl) (by kernel_rfl) ?_
  first | refine XR_a (op_field0 rfl rfl) rfl rfl ?_ | refine XR_a (op_fieldn rfl rfl) rfl rfl ?_
  refine XR_a (op_ld (st.cell 0 (i := 1) rfl rfl) rfl rfl rfl) rfl rfl ?_
  refine XR_a (op_move rfl) rfl rfl ?_
  refine XR_a (op_nilCheck rfl) rfl rfl ?_
  first | refine XR_a (op_field0 rfl rfl) rfl rfl ?_ | refine XR_a (op_fieldn rfl rfl) rfl rfl ?_
  refine XR_a (op_ld (st.cell 1 (i := 0) rfl rfl) rfl rfl rfl) rfl rfl ?_
  refine XR_a (op_subN (m := L) (n := w) rfl rfl (by omega) (by simp only [inK]; omega)) rfl rfl ?_
  refine XR_a (op_shlC (m := 1) (L - w) rfl rfl (by simp only [IntKind.bits]; omega) (by simp only [inK]; omega)) rfl rfl ?_
  refine XR_as (.int .i64 (2 ^ (L - w) : Nat)) (by rw [Nat.one_mul]) ?_
  refine XR_ga (opl_mkS (n := 2 ^ (L - w)) (by omega) rfl rfl rfl rfl rfl) rfl rfl rfl (fun _ _ e => e.1) ?_
  rintro vm hp hnew
  replace st := st.new hnew
  replace st := (id st : St B h0 hp (row 58 3 vm (List.replicate (2 ^ (L - w)) [Value.int .i64 0, .int .i64 0, .bool false]).flatten :: _))
  refine XR_a (op_assign rfl) rfl rfl ?_
  refine XR_nil ?_
  refine X_seq ?_
  refine X_seq ?_
  refine X_reg ?_
  refine XR_a (op_move rfl) rfl rfl ?_
  refine XR_a (op_nilCheck rfl) rfl rfl ?_
  first | refine XR_a (op_field0 rfl rfl) rfl rfl ?_ | refine XR_a (op_fieldn rfl rfl) rfl rfl ?_
  refine XR_a (op_ld (st.cell 2 (i := 3) rfl rfl) rfl rfl rfl) rfl rfl ?_
  refine XR_a (op_len rfl rfl rfl) rfl rfl ?_
  refine XR_a (op_move rfl) rfl rfl ?_
  refine XR_nil ?_
  refine X_block ?_
  rw [cellsR_zero] at st
  obtain ⟨gm, nm, cm, rfl, hlenm, _, _, _⟩ := st.row0 0 rfl (by rw [cellsR_len]; omega)
  rw [cellsR_len] at hlenm
  obtain rfl : nm = 2 ^ (L - w) := by omega
  have hq0 : cellsR (fun _ => zeroQ) (2 ^ (L - w)) = cellsR (moreQ (Q.take 0) w m) (2 ^ (L - w)) := rfl
  rw [hq0] at st
  refine X_loop (fun i => nc - i) (fun i => [(0, .pointer (some ⟨p, 0, none⟩)), (1, .int .i64 (m : Int)), (5, .pointer (some ⟨pc, 0, none⟩)), (6, .slice (some ⟨gm, 0, none⟩) (2 ^ (L - w)) cm), (21, .slice Ac nc cc), (22, .int .i64 (nc : Nat)), (23, .int .i64 (i : Nat))])
    (fun (i : Nat) hp => St B h0 hp (row 58 3 (.slice (some ⟨gm, 0, none⟩) (2 ^ (L - w)) cm) (cellsR (moreQ (Q.take i) w m) (2 ^ (L - w))) :: pt pc 58 (rC (0, L, true)) :: pt p 109 (tabC w (.slice (some ⟨gr, 0, none⟩) nr cr) pm (.slice Ac nc cc) sz) :: row 58 3 (.slice (some ⟨gr, 0, none⟩) nr cr) (cellsR R nr) :: mapR pm l :: row 111 3 (.slice Ac nc cc) (Q.flatMap cC) :: F) ∧ i ≤ nc)
    0 (.cons rfl (.cons rfl (.cons rfl (.cons rfl (.cons rfl (.cons rfl (.cons rfl (.nil _)))))))) ⟨st, by omega⟩ ?_
  clear st hnew
  rintro i hp ⟨st, hi⟩
  refine X_seq ?_
  refine X_reg ?_
  refine XR_a (op_lss rfl rfl) rfl rfl ?_
  refine XR_nil ?_
  refine X_seq ?_
  refine X_if rfl (fun h => ?_) (fun h => ?_)
  · have hilt : i < Q.length := by omega
    obtain ⟨gc, oc, rfl, hcc⟩ := Rd.flat cC 3 (st.rdS 5 rfl).2 (fun _ => rfl) (by omega) (by omega)
    have hQc := hQ.len Q[i] (List.getElem_mem hilt)
    have hQb := hQ.bits Q[i] (List.getElem_mem hilt)
    have htk := List.take_succ_eq_append_getElem hilt
    have hQt : QOk (Q.take i ++ [Q[i]]) := by rw [← htk]; exact hQ.sub fun c hc => List.mem_of_mem_take hc
    have hcell := hcc i hilt
    have hgei := hge Q[i] (List.getElem_mem hilt)
    obtain ⟨c, hce⟩ : ∃ c, Q[i] = c := ⟨_, rfl⟩
    rw [hce] at hQc hQb htk hQt hcell hgei
    have hb15 : c.2.1 < 32768 := Nat.lt_of_lt_of_le hQb (Nat.pow_le_pow_right (n := 2) (by omega) hQc.2)
    refine X_skip ?_
    refine X_seq ?_
    refine X_block ?_
    refine X_seq ?_
    refine X_reg ?_
    refine XR_a (op_index (i := i) rfl rfl rfl (by omega)) rfl rfl ?_
    refine XR_a (op_ldA (vs := cC c) (fun j u hu => hcell j u hu) rfl rfl rfl rfl) rfl rfl ?_
    refine XR_wa (opl_new rfl) rfl rfl rfl ?_
    rintro _ hp ⟨px, rfl, hnew⟩
    replace st := st.new hnew
    refine XR_wn (opl_store_whole st 0 rfl rfl rfl rfl rfl (one_cC c) rfl) rfl rfl fun _ hp st => ?_
    simp only [List.set_cons_zero, List.set_cons_succ] at st
    refine XR_nil ?_
    refine X_seq ?_
    refine X_draw byKind (by kernel_rfl) (by kernel_rfl) ?_
    first | refine XR_a (op_field0 rfl rfl) rfl rfl ?_ | refine XR_a (op_fieldn rfl rfl) rfl rfl ?_
    refine XR_a (op_ld (st.cell 0 (i := 2) rfl rfl) rfl rfl rfl) rfl rfl ?_
    refine XR_a (op_move rfl) rfl rfl ?_
    refine XR_a (op_nilCheck rfl) rfl rfl ?_
    first | refine XR_a (op_field0 rfl rfl) rfl rfl ?_ | refine XR_a (op_fieldn rfl rfl) rfl rfl ?_
    refine XR_a (op_ld (st.cell 3 (i := 0) rfl rfl) rfl rfl rfl) rfl rfl ?_
    refine XR_a (op_gtr rfl rfl) rfl rfl ?_
    refine XR_a (op_move rfl) rfl rfl ?_
    refine XR_if 34 rfl (fun h => ?_) (fun h => ?_)
    · first | refine XR_a (op_field0 rfl rfl) rfl rfl ?_ | refine XR_a (op_fieldn rfl rfl) rfl rfl ?_
      refine XR_a (op_ld (st.cell 0 (i := 1) rfl rfl) rfl rfl rfl) rfl rfl ?_
      refine XR_a (op_move rfl) rfl rfl ?_
      refine XR_a (op_nilCheck rfl) rfl rfl ?_
      first | refine XR_a (op_field0 rfl rfl) rfl rfl ?_ | refine XR_a (op_fieldn rfl rfl) rfl rfl ?_
      refine XR_a (op_ld (st.cell 3 (i := 1) rfl rfl) rfl rfl rfl) rfl rfl ?_
      refine XR_a (op_len rfl rfl rfl) rfl rfl ?_
      refine XR_a (op_subN (m := nr) (n := 1) rfl rfl (by omega) (by simp only [inK]; omega)) rfl rfl ?_
      refine XR_a (op_andS (m := c.2.1) (n := nr - 1) rfl rfl (by simp only [inK]; omega) (by simp only [inK]; omega)) rfl rfl ?_
      refine XR_as (.int .i64 (c.2.1 % 2 ^ w : Nat)) (by rw [hnr, and_low]) ?_
      refine XR_a (op_move rfl) rfl rfl ?_
      refine XR_a (op_eql rfl rfl) rfl rfl ?_
      refine XR_a (op_pick_t rfl rfl) rfl rfl ?_
      refine XR_nil ?_
      refine X_if rfl (fun h => ?_) (fun h => ?_)
      · have hlq : longQ w m c = true := longQ_iff.2 ⟨by omega, by omega⟩
        have hstep : cellsR (fun j => if j % 2 ^ (c.2.2 - w) = c.2.1 / 2 ^ w then symQ c else moreQ (Q.take i) w m j) (2 ^ (L - w)) = cellsR (moreQ (Q.take (i + 1)) w m) (2 ^ (L - w)) := cellsR_congr fun j _ => by rw [htk, moreQ_long hQt hm hlq]
        refine X_draw byKind (by kernel_rfl) (by kernel_rfl) ?_
        refine XR_a (op_move rfl) rfl rfl ?_
        refine XR_a (op_ldA (vs := cC c) (st.cells 0 rfl) rfl rfl rfl rfl) rfl rfl ?_
        refine XR_a (op_move rfl) rfl rfl ?_
        refine XR_a (op_nilCheck rfl) rfl rfl ?_
        first | refine XR_a (op_field0 rfl rfl) rfl rfl ?_ | refine XR_a (op_fieldn rfl rfl) rfl rfl ?_
        refine XR_a (op_ld (st.cell 3 (i := 0) rfl rfl) rfl rfl rfl) rfl rfl ?_
        refine XR_wa (opl_call (fill_spec (c := c) (past := w) (st.perm (List.Perm.swap _ _ _)).here hpL hQc.2 (by omega) hQb) rfl (by kernel_rfl)) rfl rfl rfl ?_
        rintro _ hp ⟨_, st2⟩
        replace st := ((st.perm (List.Perm.swap _ _ _)).trans st2).perm (List.Perm.swap _ _ _)
        rw [hstep] at st
        refine XR_nil ?_
        refine X_blk ?_
        refine X_reg ?_
        first | refine XR_a (op_addN (n := 1) rfl rfl (by simp only [inK]; omega)) rfl rfl ?_ | refine XR_a (op_addI rfl rfl (by simp only [inK]; omega)) rfl rfl ?_ | refine XR_a (op_add rfl rfl) rfl rfl ?_
        refine XR_a (op_move rfl) rfl rfl ?_
        refine XR_nil ?_
        exact X_again (i + 1) (.cons rfl (.cons rfl (.cons rfl (.cons rfl (.cons rfl (.cons rfl (.cons rfl (.nil _)))))))) ⟨st.tail, by omega⟩ (by omega)
      · refine X_skip ?_
        refine X_blk ?_
        refine X_reg ?_
        first | refine XR_a (op_addN (n := 1) rfl rfl (by simp only [inK]; omega)) rfl rfl ?_ | refine XR_a (op_addI rfl rfl (by simp only [inK]; omega)) rfl rfl ?_ | refine XR_a (op_add rfl rfl) rfl rfl ?_
        refine XR_a (op_move rfl) rfl rfl ?_
        refine XR_nil ?_
        have hlq : longQ w m c = false := by
          cases hh : longQ w m c with
          | false => rfl
          | true => have := (longQ_iff.1 hh).2; omega
        have hstep : cellsR (moreQ (Q.take i) w m) (2 ^ (L - w)) = cellsR (moreQ (Q.take (i + 1)) w m) (2 ^ (L - w)) := cellsR_congr fun j _ => by rw [htk, moreQ_skip hlq]
        rw [hstep] at st
        exact X_again (i + 1) (.cons rfl (.cons rfl (.cons rfl (.cons rfl (.cons rfl (.cons rfl (.cons rfl (.nil _)))))))) ⟨st.tail, by omega⟩ (by omega)
    · refine XR_no rfl rfl ?_
      refine XR_no rfl rfl ?_
      refine XR_no rfl rfl ?_
      refine XR_no rfl rfl ?_
      refine XR_no rfl rfl ?_
      refine XR_no rfl rfl ?_
      refine XR_no rfl rfl ?_
      refine XR_no rfl rfl ?_
      refine XR_no rfl rfl ?_
      refine XR_no rfl rfl ?_
      refine XR_no rfl rfl ?_
      refine XR_a (op_pick_f rfl rfl) rfl rfl ?_
      refine XR_nil ?_
      refine X_else rfl ?_
      refine X_skip ?_
      refine X_blk ?_
      refine X_reg ?_
      first | refine XR_a (op_addN (n := 1) rfl rfl (by simp only [inK]; omega)) rfl rfl ?_ | refine XR_a (op_addI rfl rfl (by simp only [inK]; omega)) rfl rfl ?_ | refine XR_a (op_add rfl rfl) rfl rfl ?_
      refine XR_a (op_move rfl) rfl rfl ?_
      refine XR_nil ?_
      have hlq : longQ w m c = false := by
        cases hh : longQ w m c with
        | false => rfl
        | true => have := (longQ_iff.1 hh).1; omega
      have hstep : cellsR (moreQ (Q.take i) w m) (2 ^ (L - w)) = cellsR (moreQ (Q.take (i + 1)) w m) (2 ^ (L - w)) := cellsR_congr fun j _ => by rw [htk, moreQ_skip hlq]
      rw [hstep] at st
      exact X_again (i + 1) (.cons rfl (.cons rfl (.cons rfl (.cons rfl (.cons rfl (.cons rfl (.cons rfl (.nil _)))))))) ⟨st.tail, by omega⟩ (by omega)
  · obtain rfl : i = nc := by omega
    rw [List.take_of_length_le (by omega)] at st
    refine X_exit rfl ?_
    refine X_seq ?_
    refine X_reg ?_
    refine XR_a (op_move rfl) rfl rfl ?_
    refine XR_a (op_nilCheck rfl) rfl rfl ?_
    first | refine XR_a (op_field0 rfl rfl) rfl rfl ?_ | refine XR_a (op_fieldn rfl rfl) rfl rfl ?_
    refine XR_a (op_ld (st.cell 2 (i := 2) rfl rfl) rfl rfl rfl) rfl rfl ?_
    refine XR_a (op_move rfl) rfl rfl ?_
    refine XR_a (op_move rfl) rfl rfl ?_
    refine XR_wn (opl_mapSet st 4 rfl rfl rfl rfl rfl hfresh) rfl rfl fun _ hp st => ?_
    simp only [List.set_cons_zero, List.set_cons_succ] at st
    refine XR_nil ?_
    refine X_reg ?_
    refine XR_a (op_move rfl) rfl rfl ?_
    refine XR_a (op_nilCheck rfl) rfl rfl ?_
    first | refine XR_a (op_field0 rfl rfl) rfl rfl ?_ | refine XR_a (op_fieldn rfl rfl) rfl rfl ?_
    refine XR_a (op_ld (st.cell 2 (i := 4) rfl rfl) rfl rfl rfl) rfl rfl ?_
    refine XR_a (op_move rfl) rfl rfl ?_
    refine XR_a (op_len rfl rfl rfl) rfl rfl ?_
    refine XR_a (op_addN (m := sz) (n := 2 ^ (L - w)) rfl rfl (by simp only [inK]; omega)) rfl rfl ?_
    refine XR_a (op_nilCheck rfl) rfl rfl ?_
    first | refine XR_a (op_field0 rfl rfl) rfl rfl ?_ | refine XR_a (op_fieldn rfl rfl) rfl rfl ?_
    refine XR_wn (opl_store_pt (i := 4) (v := nV (sz + 2 ^ (L - w))) st 2 rfl rfl rfl rfl rfl rfl) rfl rfl fun _ hp st => ?_
    simp only [List.set_cons_zero, List.set_cons_succ] at st
    refine XR_nil ?_
    refine X_end .nil ?_
    exact ⟨rfl, _, (st.perm (List.Perm.swap _ _ _)).tail⟩
end Go.Bn
