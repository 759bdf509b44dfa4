/- Packed texts of a claim: what its theorem uses, joined. -/
import Derived.Test.YtoodeecmplpndaaGreatProg
import Derived.Test.YtoodeecmplpndaaGreatPkReaderSame8
section
set_option linter.unusedVariables false
set_option linter.unusedSimpArgs false
set_option maxHeartbeats 4000000
set_option maxRecDepth 20000
namespace Go.Bn
open Go Proofs
theorem fill_spec {B gb n cap past : Nat} {R : Nat → QR} {c : QC} {F : List Res} {h0 : Heap} (st : St B h0 h0 (row 259 3 (.slice (some ⟨gb, 0, none⟩) n cap) (cellsR R n) :: F)) (hn : n ≤ 32768) (hc : c.2.2 ≤ 15) (hp : past ≤ c.2.2) (hb : c.2.1 < 2 ^ c.2.2) :
  Ret Tryz.prog 158 [.slice (some ⟨gb, 0, none⟩) n cap, .agg (cC c).toArray, .int .i64 (past : Int)] h0
   fun v h' => v = .tuple #[] ∧ St B h0 h' (row 259 3 (.slice (some ⟨gb, 0, none⟩) n cap) (cellsR (fun m => if m % 2 ^ (c.2.2 - past) = c.2.1 / 2 ^ past then symQ c else R m) n) :: F) := by
 obtain ⟨s, b, k⟩ := c
 simp only at hc hp hb ⊢
 have hbl : b / 2 ^ past < 2 ^ (k - past) := by
  refine (Nat.div_lt_iff_lt_mul (Nat.pow_pos (by omega))).2 ?_
  rw [← Nat.pow_add, show k - past + past = k by omega]; exact hb
 have hs2 : 2 ^ (k - past) ≤ 32768 := Nat.pow_le_pow_right (n := 2) (by omega) (show k - past ≤ 15 by omega)
 have hb2 : 2 ^ k ≤ 32768 := Nat.pow_le_pow_right (n := 2) (by omega) hc
 obtain ⟨b0, hb0⟩ : ∃ b0, b / 2 ^ past = b0 := ⟨_, rfl⟩
 obtain ⟨stp, hstp⟩ : ∃ stp, 2 ^ (k - past) = stp := ⟨_, rfl⟩
 rw [hb0, hstp] at hbl ⊢
 rw [hstp] at hs2
 have hstp0 : 0 < stp := by rw [← hstp]; exact Nat.pow_pos (by omega)
 refine ret_of_X Tryz.func158 rfl rfl fun w0 hw0 => ?_
 simp only [argE, Nat.zero_add, Nat.reduceAdd]
 refine X_seq (X_reg ?_)
 refine XR_wa (opl_bx rfl rfl) rfl rfl rfl ?_
 rintro _ hp ⟨pc, rfl, hnew⟩
 replace st := st.new hnew
 refine XR_nil (X_seq (X_reg ?_))
 first | refine XR_a (op_field0 rfl rfl) rfl rfl ?_ | refine XR_a (op_fieldn rfl rfl) rfl rfl ?_
 refine XR_a (op_ld (st.cell 0 (i := 2) rfl rfl) rfl rfl rfl) rfl rfl ?_
 refine XV rfl rfl rfl ?_
 refine XR_a (op_subN (m := k) (n := past) rfl rfl (by omega) (by simp only [inK]; omega)) rfl rfl ?_
 refine XR_a (op_shlC (m := 1) (k - past) rfl rfl (by simp only [IntKind.bits]; omega) (by rw [hstp]; simp only [inK]; omega)) rfl rfl ?_
 refine XR_as (.int .i64 (stp : Nat)) (by rw [Nat.one_mul, hstp]) ?_
 refine XA rfl rfl rfl (XR_nil (X_seq (X_reg ?_)))
 first | refine XR_a (op_field0 rfl rfl) rfl rfl ?_ | refine XR_a (op_fieldn rfl rfl) rfl rfl ?_
 refine XR_a (op_ld (st.cell 0 (i := 1) rfl rfl) rfl rfl rfl) rfl rfl ?_
 refine XV rfl rfl rfl ?_
 refine XR_a (op_shrC (m := b) past rfl rfl (by simp only [IntKind.bits]; omega)) rfl rfl ?_
 refine XR_as (.int .i64 (b0 : Nat)) (by rw [hb0]) ?_
 refine XA rfl rfl rfl (XR_nil (X_block ?_))
 refine X_loop (fun m => 65536 - m) (fun m => [(0, .slice (some ⟨gb, 0, none⟩) n cap), (4, .pointer (some ⟨pc, 0, none⟩)), (6, .int .i64 (stp : Nat)), (7, .int .i64 (m : Nat))])
  (fun (m : Nat) hp => St B h0 hp (pt pc 256 (cC (s, b, k)) :: row 259 3 (.slice (some ⟨gb, 0, none⟩) n cap) (cellsR (fun i => if i < m ∧ i % stp = b0 then symQ (s, b, k) else R i) n) :: F) ∧ m % stp = b0 ∧ m ≤ 65535)
  b0 (.cons rfl (.cons rfl (.cons rfl (.cons rfl (.nil _))))) ⟨?_, Nat.mod_eq_of_lt hbl, by omega⟩ ?_
 ·have e : cellsR (fun i => if i < b0 ∧ i % stp = b0 then symQ (s, b, k) else R i) n = cellsR R n := cellsR_congr fun i _ => if_neg fun hh => by have := Nat.mod_le i stp; omega
  rw [e]; exact st
 clear st hnew
 rintro m hp ⟨st, hm, hm2⟩
 refine X_seq (X_seq (X_reg (XV rfl rfl rfl (XV rfl rfl rfl ?_))))
 refine XR_a (op_len rfl rfl rfl) rfl rfl ?_
 refine XR_a (op_lss rfl rfl) rfl rfl ?_
 refine XR_nil ?_
 refine X_if rfl (fun h => ?_) (fun h => ?_)
 ·have hcl := cellsR_len (fun i => if i < m ∧ i % stp = b0 then symQ (s, b, k) else R i) n
  refine X_skip (X_seq (X_block (X_reg (XV rfl rfl rfl (XV rfl rfl rfl ?_)))))
  first | refine XR_a (op_field0 rfl rfl) rfl rfl ?_ | refine XR_a (op_fieldn rfl rfl) rfl rfl ?_
  refine XR_a (op_ld (st.cell 0 (i := 0) rfl rfl) rfl rfl rfl) rfl rfl ?_
  first | refine XR_a (op_field0 rfl rfl) rfl rfl ?_ | refine XR_a (op_fieldn rfl rfl) rfl rfl ?_
  refine XR_a (op_ld (st.cell 0 (i := 2) rfl rfl) rfl rfl rfl) rfl rfl ?_
  refine XR_a (op_build (ps := [(0, nV s), (1, nV k)]) (cs := (rC (symQ (s, b, k))).toArray) rfl rfl) rfl rfl ?_
  refine XR_a (op_index (i := m) rfl rfl rfl (by omega)) rfl rfl ?_
  refine XR_wn (opl_store_rows (us := rC (symQ (s, b, k))) (o := m * 3) st 1 rfl (congrArg (fun x => some (Value.pointer (some ⟨gb, x, none⟩))) (Nat.zero_add _)) rfl rfl rfl (one_rC _) (by rw [hcl]; simp; omega)) rfl rfl fun _ hp st => ?_
  simp only [List.set_cons_zero, List.set_cons_succ] at st
  rw [show (rC (symQ (s, b, k))).length = 3 from rfl, cellsR_set _ (by omega)] at st
  refine XR_nil (X_blk (X_reg (XV rfl rfl rfl (XV rfl rfl rfl ?_))))
  first | refine XR_a (op_addN rfl rfl (by simp only [inK]; omega)) rfl rfl ?_ | refine XR_a (op_addI rfl rfl (by simp only [inK]; omega)) rfl rfl ?_ | refine XR_a (op_add rfl rfl) rfl rfl ?_
  refine XA rfl rfl rfl (XR_nil ?_)
  refine X_again (m + stp) (.cons rfl (.cons rfl (.cons rfl (.cons rfl (.nil _))))) ⟨?_, by rw [Nat.add_mod_right]; exact hm, by omega⟩ (by omega)
  have e : cellsR (fun i => if i = m then symQ (s, b, k) else if i < m ∧ i % stp = b0 then symQ (s, b, k) else R i) n = cellsR (fun i => if i < m + stp ∧ i % stp = b0 then symQ (s, b, k) else R i) n := by
   refine cellsR_congr fun i _ => ?_
   by_cases h1 : i = m
   ·subst h1; rw [if_pos rfl, if_pos ⟨by omega, hm⟩]
   ·rw [if_neg h1]
    by_cases h2 : i < m ∧ i % stp = b0
    ·rw [if_pos h2, if_pos ⟨by omega, h2.2⟩]
    ·rw [if_neg h2, if_neg]
     rintro ⟨h3, h4⟩
     rcases Nat.lt_or_ge i m with h5 | h5
     ·exact h2 ⟨h5, h4⟩
     ·have h6 : (i - m) % stp = 0 := by
       have e1 := Nat.div_add_mod i stp
       have e2 := Nat.div_add_mod m stp
       rw [h4] at e1; rw [hm] at e2
       have e3 : i - m = stp * (i / stp - m / stp) := by rw [Nat.mul_sub]; omega
       rw [e3]; exact Nat.mul_mod_right _ _
      rw [Nat.mod_eq_of_lt (by omega)] at h6
      omega
  rw [← e]; exact st
 ·refine X_exit rfl ?_
  refine X_end .nil ?_
  refine ⟨rfl, ?_⟩
  have e : cellsR (fun i => if i < m ∧ i % stp = b0 then symQ (s, b, k) else R i) n = cellsR (fun i => if i % stp = b0 then symQ (s, b, k) else R i) n := by
   refine cellsR_congr fun i hi => ?_
   by_cases h1 : i % stp = b0
   ·rw [if_pos h1, if_pos ⟨by omega, h1⟩]
   ·rw [if_neg h1, if_neg (fun hh => h1 hh.2)]
  rw [e] at st
  exact st.tail
@[reducible] def tabC (w : Nat) (vr : Value) (pm : Nat) (vc : Value) (sz : Nat) : List Value := [nV w, vr, .map (some pm), vc, nV sz]
theorem and_low (x w : Nat) : x &&& (2 ^ w - 1) = x % 2 ^ w := Nat.and_two_pow_sub_one_eq_mod x w
theorem deepen_spec {B p pm w m L sz gr nr cr : Nat} {vc : Value} {Q : List QC} {R : Nat → QR} {l : List (Int × Value)} {F : List Res} {h0 : Heap}
  (st : St B h0 h0 (pt p 254 (tabC w (.slice (some ⟨gr, 0, none⟩) nr cr) pm vc sz) :: row 259 3 (.slice (some ⟨gr, 0, none⟩) nr cr) (cellsR R nr) :: mapR pm l :: row 256 3 vc (Q.flatMap cC) :: F))
  (hQ : QOk Q) (hw : 1 ≤ w ∧ w ≤ 15) (hm : m < 2 ^ w) (hL : w < L ∧ L ≤ 15) (hge : ∀ c ∈ Q, longQ w m c = true → c.2.2 ≤ L) (hnr : nr = 2 ^ w) (hfresh : ∀ q ∈ l, q.1 ≠ (m : Int)) (hsz : sz ≤ 4294967296) (hql : Q.length ≤ 1000) :
  Ret Tryz.prog 159 [.pointer (some ⟨p, 0, none⟩), .int .i64 (m : Int), .agg (rC (0, L, true)).toArray] h0
   fun v h' => v = .tuple #[] ∧ ∃ vm, St B h0 h' (row 259 3 vm (cellsR (moreQ Q w m) (2 ^ (L - w))) :: pt p 254 (tabC w (.slice (some ⟨gr, 0, none⟩) nr cr) pm vc (sz + 2 ^ (L - w))) :: row 259 3 (.slice (some ⟨gr, 0, none⟩) nr cr) (cellsR R nr) :: mapR pm (l ++ [((m : Int), vm)]) :: row 256 3 vc (Q.flatMap cC) :: F) := by
 have hpL : 2 ^ (L - w) ≤ 32768 := Nat.pow_le_pow_right (n := 2) (by omega) (show L - w ≤ 15 by omega)
 have hpw : 2 ^ w ≤ 32768 := Nat.pow_le_pow_right (n := 2) (by omega) hw.2
 have hpw0 : 0 < 2 ^ w := Nat.pow_pos (by omega)
 have hpL0 : 0 < 2 ^ (L - w) := Nat.pow_pos (by omega)
 obtain ⟨Ac, nc, cc, rfl, hlenc, _, _, _⟩ := st.row 3 rfl
 rw [flat_length _ 3 (fun _ => rfl)] at hlenc
 refine ret_of_X Tryz.func159 rfl rfl fun w0 hw0 => ?_
 simp only [argE, Nat.zero_add, Nat.reduceAdd]
 refine X_seq (X_reg ?_)
 refine XR_wa (opl_bx rfl rfl) rfl rfl rfl ?_
 rintro _ hp ⟨pc, rfl, hnew⟩
 replace st := st.new hnew
 refine XR_nil (X_seq ?_)
 refine X_draw byKind (by kernel_rfl) (by kernel_rfl) ?_
 first | refine XR_a (op_field0 rfl rfl) rfl rfl ?_ | refine XR_a (op_fieldn rfl rfl) rfl rfl ?_
 refine XR_a (op_ld (st.cell 0 (i := 1) rfl rfl) rfl rfl rfl) rfl rfl ?_
 refine XV rfl rfl rfl (XR_a (op_nilCheck rfl) rfl rfl ?_)
 first | refine XR_a (op_field0 rfl rfl) rfl rfl ?_ | refine XR_a (op_fieldn rfl rfl) rfl rfl ?_
 refine XR_a (op_ld (st.cell 1 (i := 0) rfl rfl) rfl rfl rfl) rfl rfl ?_
 refine XR_a (op_subN (m := L) (n := w) rfl rfl (by omega) (by simp only [inK]; omega)) rfl rfl ?_
 refine XR_a (op_shlC (m := 1) (L - w) rfl rfl (by simp only [IntKind.bits]; omega) (by simp only [inK]; omega)) rfl rfl ?_
 refine XR_as (.int .i64 (2 ^ (L - w) : Nat)) (by rw [Nat.one_mul]) ?_
 refine XR_ga (opl_mkS (n := 2 ^ (L - w)) (by omega) rfl rfl rfl rfl rfl) rfl rfl rfl (fun _ _ e => e.1) ?_
 rintro vm hp hnew
 replace st := st.new hnew
 replace st := (id st : St B h0 hp (row 259 3 vm (List.replicate (2 ^ (L - w)) [Value.int .i64 0, .int .i64 0, .bool false]).flatten :: _))
 refine XA rfl rfl rfl (XR_nil (X_seq (X_seq (X_reg (XV rfl rfl rfl (XR_a (op_nilCheck rfl) rfl rfl ?_))))))
 first | refine XR_a (op_field0 rfl rfl) rfl rfl ?_ | refine XR_a (op_fieldn rfl rfl) rfl rfl ?_
 refine XR_a (op_ld (st.cell 2 (i := 3) rfl rfl) rfl rfl rfl) rfl rfl ?_
 refine XR_a (op_len rfl rfl rfl) rfl rfl ?_
 refine XV rfl rfl rfl (XR_nil (X_block ?_))
 rw [cellsR_zero] at st
 obtain ⟨gm, nm, cm, rfl, hlenm, _, _, _⟩ := st.row0 0 rfl (by rw [cellsR_len]; omega)
 rw [cellsR_len] at hlenm
 obtain rfl : nm = 2 ^ (L - w) := by omega
 have hq0 : cellsR (fun _ => zeroQ) (2 ^ (L - w)) = cellsR (moreQ (Q.take 0) w m) (2 ^ (L - w)) := rfl
 rw [hq0] at st
 refine X_loop (fun i => nc - i) (fun i => [(0, .pointer (some ⟨p, 0, none⟩)), (1, .int .i64 (m : Int)), (5, .pointer (some ⟨pc, 0, none⟩)), (6, .slice (some ⟨gm, 0, none⟩) (2 ^ (L - w)) cm), (21, .slice Ac nc cc), (22, .int .i64 (nc : Nat)), (23, .int .i64 (i : Nat))])
  (fun (i : Nat) hp => St B h0 hp (row 259 3 (.slice (some ⟨gm, 0, none⟩) (2 ^ (L - w)) cm) (cellsR (moreQ (Q.take i) w m) (2 ^ (L - w))) :: pt pc 259 (rC (0, L, true)) :: pt p 254 (tabC w (.slice (some ⟨gr, 0, none⟩) nr cr) pm (.slice Ac nc cc) sz) :: row 259 3 (.slice (some ⟨gr, 0, none⟩) nr cr) (cellsR R nr) :: mapR pm l :: row 256 3 (.slice Ac nc cc) (Q.flatMap cC) :: F) ∧ i ≤ nc)
  0 (.cons rfl (.cons rfl (.cons rfl (.cons rfl (.cons rfl (.cons rfl (.cons rfl (.nil _)))))))) ⟨st, by omega⟩ ?_
 clear st hnew
 rintro i hp ⟨st, hi⟩
 refine X_seq (X_reg ?_)
 refine XR_a (op_lss rfl rfl) rfl rfl ?_
 refine XR_nil (X_seq ?_)
 refine X_if rfl (fun h => ?_) (fun h => ?_)
 ·have hilt : i < Q.length := by omega
  obtain ⟨gc, oc, rfl, hcc⟩ := Rd.flat cC 3 (st.rdS 5 rfl).2 (fun _ => rfl) (by omega) (by omega)
  have hQc := hQ.len Q[i] (List.getElem_mem hilt)
  have hQb := hQ.bits Q[i] (List.getElem_mem hilt)
  have htk := List.take_succ_eq_append_getElem hilt
  have hQt : QOk (Q.take i ++ [Q[i]]) := by rw [← htk]; exact hQ.sub fun c hc => List.mem_of_mem_take hc
  have hcell := hcc i hilt
  have hgei := hge Q[i] (List.getElem_mem hilt)
  obtain ⟨c, hce⟩ : ∃ c, Q[i] = c := ⟨_, rfl⟩
  rw [hce] at hQc hQb htk hQt hcell hgei
  have hb15 : c.2.1 < 32768 := Nat.lt_of_lt_of_le hQb (Nat.pow_le_pow_right (n := 2) (by omega) hQc.2)
  refine X_skip (X_seq (X_block (X_seq (X_reg ?_))))
  refine XR_a (op_index (i := i) rfl rfl rfl (by omega)) rfl rfl ?_
  refine XR_a (op_ldA (vs := cC c) (fun j u hu => hcell j u hu) rfl rfl rfl rfl) rfl rfl ?_
  refine XR_wa (opl_new rfl) rfl rfl rfl ?_
  rintro _ hp ⟨px, rfl, hnew⟩
  replace st := st.new hnew
  refine XR_wn (opl_store_whole st 0 rfl rfl rfl rfl rfl (one_cC c) rfl) rfl rfl fun _ hp st => ?_
  simp only [List.set_cons_zero, List.set_cons_succ] at st
  refine XR_nil (X_seq ?_)
  refine X_draw byKind (by kernel_rfl) (by kernel_rfl) ?_
  first | refine XR_a (op_field0 rfl rfl) rfl rfl ?_ | refine XR_a (op_fieldn rfl rfl) rfl rfl ?_
  refine XR_a (op_ld (st.cell 0 (i := 2) rfl rfl) rfl rfl rfl) rfl rfl ?_
  refine XV rfl rfl rfl (XR_a (op_nilCheck rfl) rfl rfl ?_)
  first | refine XR_a (op_field0 rfl rfl) rfl rfl ?_ | refine XR_a (op_fieldn rfl rfl) rfl rfl ?_
  refine XR_a (op_ld (st.cell 3 (i := 0) rfl rfl) rfl rfl rfl) rfl rfl ?_
  refine XR_a (op_gtr rfl rfl) rfl rfl ?_
  refine XV rfl rfl rfl ?_
  refine XR_if 34 rfl (fun h => ?_) (fun h => ?_)
  ·first | refine XR_a (op_field0 rfl rfl) rfl rfl ?_ | refine XR_a (op_fieldn rfl rfl) rfl rfl ?_
   refine XR_a (op_ld (st.cell 0 (i := 1) rfl rfl) rfl rfl rfl) rfl rfl ?_
   refine XV rfl rfl rfl (XR_a (op_nilCheck rfl) rfl rfl ?_)
   first | refine XR_a (op_field0 rfl rfl) rfl rfl ?_ | refine XR_a (op_fieldn rfl rfl) rfl rfl ?_
   refine XR_a (op_ld (st.cell 3 (i := 1) rfl rfl) rfl rfl rfl) rfl rfl ?_
   refine XR_a (op_len rfl rfl rfl) rfl rfl ?_
   refine XR_a (op_subN (m := nr) (n := 1) rfl rfl (by omega) (by simp only [inK]; omega)) rfl rfl ?_
   refine XR_a (op_andS (m := c.2.1) (n := nr - 1) rfl rfl (by simp only [inK]; omega) (by simp only [inK]; omega)) rfl rfl ?_
   refine XR_as (.int .i64 (c.2.1 % 2 ^ w : Nat)) (by rw [hnr, and_low]) ?_
   refine XV rfl rfl rfl ?_
   refine XR_a (op_eql rfl rfl) rfl rfl ?_
   refine XR_a (op_pick_t rfl rfl) rfl rfl (XR_nil ?_)
   refine X_if rfl (fun h => ?_) (fun h => ?_)
   ·have hlq : longQ w m c = true := longQ_iff.2 ⟨by omega, by omega⟩
    have hstep : cellsR (fun j => if j % 2 ^ (c.2.2 - w) = c.2.1 / 2 ^ w then symQ c else moreQ (Q.take i) w m j) (2 ^ (L - w)) = cellsR (moreQ (Q.take (i + 1)) w m) (2 ^ (L - w)) := cellsR_congr fun j _ => by rw [htk, moreQ_long hQt hm hlq]
    refine X_draw byKind (by kernel_rfl) (by kernel_rfl) ?_
    refine XV rfl rfl rfl ?_
    refine XR_a (op_ldA (vs := cC c) (st.cells 0 rfl) rfl rfl rfl rfl) rfl rfl ?_
    refine XV rfl rfl rfl (XR_a (op_nilCheck rfl) rfl rfl ?_)
    first | refine XR_a (op_field0 rfl rfl) rfl rfl ?_ | refine XR_a (op_fieldn rfl rfl) rfl rfl ?_
    refine XR_a (op_ld (st.cell 3 (i := 0) rfl rfl) rfl rfl rfl) rfl rfl ?_
    refine XR_wa (opl_call (fill_spec (c := c) (past := w) (st.perm (List.Perm.swap _ _ _)).here hpL hQc.2 (by omega) hQb) rfl (by kernel_rfl)) rfl rfl rfl ?_
    rintro _ hp ⟨_, st2⟩
    replace st := ((st.perm (List.Perm.swap _ _ _)).trans st2).perm (List.Perm.swap _ _ _)
    rw [hstep] at st
    refine XR_nil (X_blk (X_reg ?_))
    first | refine XR_a (op_addN (n := 1) rfl rfl (by simp only [inK]; omega)) rfl rfl ?_ | refine XR_a (op_addI rfl rfl (by simp only [inK]; omega)) rfl rfl ?_ | refine XR_a (op_add rfl rfl) rfl rfl ?_
    refine XV rfl rfl rfl (XR_nil ?_)
    exact X_again (i + 1) (.cons rfl (.cons rfl (.cons rfl (.cons rfl (.cons rfl (.cons rfl (.cons rfl (.nil _)))))))) ⟨st.tail, by omega⟩ (by omega)
   ·refine X_skip (X_blk (X_reg ?_))
    first | refine XR_a (op_addN (n := 1) rfl rfl (by simp only [inK]; omega)) rfl rfl ?_ | refine XR_a (op_addI rfl rfl (by simp only [inK]; omega)) rfl rfl ?_ | refine XR_a (op_add rfl rfl) rfl rfl ?_
    refine XV rfl rfl rfl (XR_nil ?_)
    have hlq : longQ w m c = false := by
     cases hh : longQ w m c with
     | false => rfl
     | true => have := (longQ_iff.1 hh).2; omega
    have hstep : cellsR (moreQ (Q.take i) w m) (2 ^ (L - w)) = cellsR (moreQ (Q.take (i + 1)) w m) (2 ^ (L - w)) := cellsR_congr fun j _ => by rw [htk, moreQ_skip hlq]
    rw [hstep] at st
    exact X_again (i + 1) (.cons rfl (.cons rfl (.cons rfl (.cons rfl (.cons rfl (.cons rfl (.cons rfl (.nil _)))))))) ⟨st.tail, by omega⟩ (by omega)
  ·refine XR_no rfl rfl (XR_no rfl rfl (XR_no rfl rfl (XR_no rfl rfl (XR_no rfl rfl (XR_no rfl rfl (XR_no rfl rfl (XR_no rfl rfl (XR_no rfl rfl (XR_no rfl rfl ?_)))))))))
   refine XR_no rfl rfl (XR_a (op_pick_f rfl rfl) rfl rfl (XR_nil (X_else rfl (X_skip (X_blk (X_reg ?_))))))
   first | refine XR_a (op_addN (n := 1) rfl rfl (by simp only [inK]; omega)) rfl rfl ?_ | refine XR_a (op_addI rfl rfl (by simp only [inK]; omega)) rfl rfl ?_ | refine XR_a (op_add rfl rfl) rfl rfl ?_
   refine XV rfl rfl rfl (XR_nil ?_)
   have hlq : longQ w m c = false := by
    cases hh : longQ w m c with
    | false => rfl
    | true => have := (longQ_iff.1 hh).1; omega
   have hstep : cellsR (moreQ (Q.take i) w m) (2 ^ (L - w)) = cellsR (moreQ (Q.take (i + 1)) w m) (2 ^ (L - w)) := cellsR_congr fun j _ => by rw [htk, moreQ_skip hlq]
   rw [hstep] at st
   exact X_again (i + 1) (.cons rfl (.cons rfl (.cons rfl (.cons rfl (.cons rfl (.cons rfl (.cons rfl (.nil _)))))))) ⟨st.tail, by omega⟩ (by omega)
 ·obtain rfl : i = nc := by omega
  rw [List.take_of_length_le (by omega)] at st
  refine X_exit rfl (X_seq (X_reg (XV rfl rfl rfl (XR_a (op_nilCheck rfl) rfl rfl ?_))))
  first | refine XR_a (op_field0 rfl rfl) rfl rfl ?_ | refine XR_a (op_fieldn rfl rfl) rfl rfl ?_
  refine XR_a (op_ld (st.cell 2 (i := 2) rfl rfl) rfl rfl rfl) rfl rfl ?_
  refine XV rfl rfl rfl (XV rfl rfl rfl ?_)
  refine XR_wn (opl_mapSet st 4 rfl rfl rfl rfl rfl hfresh) rfl rfl fun _ hp st => ?_
  simp only [List.set_cons_zero, List.set_cons_succ] at st
  refine XR_nil (X_reg (XV rfl rfl rfl (XR_a (op_nilCheck rfl) rfl rfl ?_)))
  first | refine XR_a (op_field0 rfl rfl) rfl rfl ?_ | refine XR_a (op_fieldn rfl rfl) rfl rfl ?_
  refine XR_a (op_ld (st.cell 2 (i := 4) rfl rfl) rfl rfl rfl) rfl rfl ?_
  refine XV rfl rfl rfl ?_
  refine XR_a (op_len rfl rfl rfl) rfl rfl ?_
  refine XR_a (op_addN (m := sz) (n := 2 ^ (L - w)) rfl rfl (by simp only [inK]; omega)) rfl rfl ?_
  refine XR_a (op_nilCheck rfl) rfl rfl ?_
  first | refine XR_a (op_field0 rfl rfl) rfl rfl ?_ | refine XR_a (op_fieldn rfl rfl) rfl rfl ?_
  refine XR_wn (opl_store_pt (i := 4) (v := nV (sz + 2 ^ (L - w))) st 2 rfl rfl rfl rfl rfl rfl) rfl rfl fun _ hp st => ?_
  simp only [List.set_cons_zero, List.set_cons_succ] at st
  refine XR_nil ?_
  refine X_end .nil ?_
  exact ⟨rfl, _, (st.perm (List.Perm.swap _ _ _)).tail⟩
end Go.Bn
end

section
set_option linter.unusedVariables false
set_option linter.unusedSimpArgs false
set_option maxHeartbeats 4000000
set_option maxRecDepth 20000
namespace Go.Bn
open Go Proofs
def bigR (f : Nat × Value → Res) : List (Nat × Value) → Res
  | [] => emp
  | x :: l => starR (f x) (bigR f l)
def deepTo (Q : List QC) (w m : Nat) : List Nat := (List.range m).filter fun i => (rowQ Q w i).2.2
theorem deepTo_succ (Q : List QC) (w m : Nat) : deepTo Q w (m + 1) = deepTo Q w m ++ if (rowQ Q w m).2.2 = true then [m] else [] := by
 unfold deepTo
 rw [List.range_succ, List.filter_append]
 congr 1
 simp only [List.filter_cons, List.filter_nil]
def sizeTo (Q : List QC) (w : Nat) : Nat → Nat
  | 0 => 2 ^ w
  | m + 1 => sizeTo Q w m + if (rowQ Q w m).2.2 = true then 2 ^ ((rowQ Q w m).2.1 - w) else 0
theorem rowQ_deep {Q : List QC} {w m : Nat} (h : (rowQ Q w m).2.2 = true) : rowQ Q w m = (0, longest Q w m, true) ∧ 0 < longest Q w m := by
 unfold rowQ at h ⊢
 cases hq : Q.find? (shortQ w m) with
 | some c => rw [hq] at h; simp [symQ] at h
 | none =>
  rw [hq] at h
  have h0 : 0 < longest Q w m := by simpa using h
  exact ⟨by simp only; rw [decide_eq_true h0], h0⟩
theorem rowQ_len {Q : List QC} (h : QOk Q) (w m : Nat) : (rowQ Q w m).2.1 ≤ 15 := by
 unfold rowQ
 cases hq : Q.find? (shortQ w m) with
 | some c => exact (h.len c (List.mem_of_find?_eq_some hq)).2
 | none => exact longest_le h w m
theorem sizeTo_le {Q : List QC} (h : QOk Q) {w : Nat} (hw : w ≤ 15) : ∀ m, sizeTo Q w m ≤ 32768 + m * 32768
 | 0 => by
  have := Nat.pow_le_pow_right (n := 2) (by omega) hw
  unfold sizeTo; omega
 | m + 1 => by
  have ih := sizeTo_le h hw m
  have hl := rowQ_len h w m
  have : 2 ^ ((rowQ Q w m).2.1 - w) ≤ 32768 := Nat.pow_le_pow_right (n := 2) (by omega) (show (rowQ Q w m).2.1 - w ≤ 15 by omega)
  rw [sizeTo, Nat.succ_mul]
  generalize 2 ^ ((rowQ Q w m).2.1 - w) = y at this ⊢
  split
  ·exact Nat.le_trans (Nat.add_le_add ih this) (by rw [Nat.add_assoc]; exact Nat.le_refl _)
  ·exact Nat.le_trans ih (by rw [← Nat.add_assoc]; exact Nat.le_add_right _ _)
theorem sizeTo_succ (Q : List QC) (w m : Nat) : sizeTo Q w (m + 1) = sizeTo Q w m + if (rowQ Q w m).2.2 = true then 2 ^ ((rowQ Q w m).2.1 - w) else 0 := rfl
theorem sizeTo_zero (Q : List QC) (w : Nat) : sizeTo Q w 0 = 2 ^ w := rfl
attribute [irreducible] sizeTo
def moreR (Q : List QC) (w : Nat) (x : Nat × Value) : Res := row 259 3 x.2 (cellsR (moreQ Q w x.1) (2 ^ (longest Q w x.1 - w)))
def keysOf (D : List (Nat × Value)) : List (Int × Value) := D.reverse.map fun x => ((x.1 : Int), x.2)
@[reducible] def tabG (p : Nat) (Q : List QC) (w : Nat) (vr : Value) (pm : Nat) (vc : Value) (D : List (Nat × Value)) : Res :=
  starR (pt p 254 (tabC w vr pm vc (sizeTo Q w (2 ^ w)))) (starR (row 259 3 vr (cellsR (rowQ Q w) (2 ^ w))) (starR (mapR pm (keysOf D)) (starR (row 256 3 vc (Q.flatMap cC)) (bigR (moreR Q w) D))))
def tabR (p : Nat) (Q : List QC) (w : Nat) : Res := exR fun (s : Value × Nat × Value × List (Nat × Value)) => andR (s.2.2.2.map (·.1) = (deepTo Q w (2 ^ w)).reverse) (tabG p Q w s.1 s.2.1 s.2.2.1 s.2.2.2)
theorem rot {a b : Res} {l : List Res} : (a :: b :: l).Perm (b :: a :: l) := List.Perm.swap _ _ _
theorem perm5 {a b c d e : Res} {F : List Res} : (d :: e :: c :: b :: a :: F).Perm (a :: b :: c :: d :: e :: F) := by
 have h1 : ([d, e, c, b] ++ a :: F).Perm (a :: ([d, e, c, b] ++ F)) := List.perm_middle
 have h2 : ([d, e, c] ++ b :: F).Perm (b :: ([d, e, c] ++ F)) := List.perm_middle
 have h3 : ([d, e] ++ c :: F).Perm (c :: ([d, e] ++ F)) := List.perm_middle
 exact h1.trans (.cons _ (h2.trans (.cons _ h3)))
theorem St.tab {B p w : Nat} {Q : List QC} {F : List Res} {h0 hp : Heap} (st : St B h0 hp (tabR p Q w :: F)) : ∃ vr pm vc D, D.map (·.1) = (deepTo Q w (2 ^ w)).reverse ∧
  St B h0 hp (pt p 254 (tabC w vr pm vc (sizeTo Q w (2 ^ w))) :: Bn.row 259 3 vr (cellsR (rowQ Q w) (2 ^ w)) :: mapR pm (keysOf D) :: Bn.row 256 3 vc (Q.flatMap cC) :: bigR (moreR Q w) D :: F) := by
 obtain ⟨⟨vr, pm, vc, D⟩, s1⟩ := St.ex.1 st
 obtain ⟨hd, s2⟩ := St.and.1 s1
 refine ⟨vr, pm, vc, D, hd, ?_⟩
 have s3 := (St.star.1 s2).perm rot
 have s4 := (St.star.1 s3).perm rot
 have s5 := (St.star.1 s4).perm rot
 have s6 := St.star.1 s5
 exact s6.perm perm5
theorem St.untab {B p w : Nat} {Q : List QC} {h0 hp : Heap} {vr vc : Value} {pm : Nat} {D : List (Nat × Value)} (hd : D.map (·.1) = (deepTo Q w (2 ^ w)).reverse)
  (st : St B h0 hp [pt p 254 (tabC w vr pm vc (sizeTo Q w (2 ^ w))), Bn.row 259 3 vr (cellsR (rowQ Q w) (2 ^ w)), mapR pm (keysOf D), Bn.row 256 3 vc (Q.flatMap cC), bigR (moreR Q w) D]) : St B h0 hp [tabR p Q w] := by
 have s1 := st.re 5 [3, 4, 2, 1, 0] (by decide)
 simp only [List.map_cons, List.map_nil, getR] at s1
 have s2 := (St.star.2 s1).perm rot
 have s3 := (St.star.2 s2).perm rot
 have s4 := (St.star.2 s3).perm rot
 exact St.ex.2 ⟨(vr, pm, vc, D), St.and.2 ⟨hd, St.star.2 s4⟩⟩
def widthN (n : Int) : Nat := (cutI n 1 15).toNat
theorem widthN_int (n : Int) : cutI n 1 15 = (widthN n : Nat) ∧ 1 ≤ widthN n ∧ widthN n ≤ 15 := by unfold widthN cutI; omega
theorem qnew_spec {n c : Nat} {A : Option Addr} {li : List Int} (width : Int) {h0 : Heap} (hr : Rd h0 A (li.map iV)) (hl : li.length = n) (hn : n ≤ 17592186044416) :
  Ret Tryz.prog 132 [.slice A n c, .int .i64 width] h0 fun v h' =>
   ∃ x, v = retVal [x, .int .i64 (errC li)] ∧ Ext h0 h' ∧ (rightC li → ∃ p, x = .pointer (some ⟨p, 0, none⟩) ∧ St h0.size h0 h' [tabR p (qcodes (li.map Int.toNat)) (widthN width)]) ∧ (¬ rightC li → x = .pointer none) := by
 refine ret_of_X Tryz.func132 rfl rfl fun w0 hw0 => ?_
 simp only [argE, Nat.zero_add, Nat.reduceAdd]
 refine X_seq (X_reg (XA rfl rfl rfl (XA rfl rfl rfl (XR_nil (X_seq (X_reg (XV rfl rfl rfl ?_)))))))
 refine XR_wa (opl_call (codes_spec hr hl hn) rfl (by kernel_rfl)) rfl rfl rfl ?_
 rintro _ hp ⟨vc, rfl, hx, hy, hz⟩
 refine XV rfl rfl rfl (XR_a (op_extract rfl rfl) rfl rfl (XR_a (op_extract rfl rfl) rfl rfl (XA rfl rfl rfl (XA rfl rfl rfl (XR_nil (X_seq (X_seq (X_reg (XV rfl rfl rfl ?_)))))))))
 refine XR_a (op_neq rfl rfl) rfl rfl ?_
 refine XR_nil ?_
 refine X_if rfl (fun h => ?_) (fun h => ?_)
 ·refine X_seq (X_reg (XV rfl rfl rfl (XA rfl rfl rfl (XA rfl rfl rfl (XR_nil ?_)))))
  refine X_ret (.cons (.tmp rfl) (.cons (.tmp rfl) .nil)) ?_
  have hR : ¬ rightC li := fun hh => h (errC_zero.2 hh)
  exact ⟨_, rfl, hx, fun hh => absurd hh hR, fun _ => rfl⟩
 ·have hR : rightC li := errC_zero.1 (Decidable.not_not.1 h)
  have st := hy hR
  have hQ := qcodes_ok hR.ok
  have hql : (qcodes (li.map Int.toNat)).length ≤ 320 := Nat.le_trans (codesTo_len _ _) hR.ok.2.1
  obtain ⟨Q, hQe⟩ : ∃ Q, qcodes (li.map Int.toNat) = Q := ⟨_, rfl⟩
  rw [hQe] at hQ hql st ⊢
  obtain ⟨hwi, hw⟩ := widthN_int width
  obtain ⟨w, hwe⟩ : ∃ w, widthN width = w := ⟨_, rfl⟩
  rw [hwe] at hwi hw ⊢
  have hpw : 2 ^ w ≤ 32768 := Nat.pow_le_pow_right (n := 2) (by omega) hw.2
  have hpw0 : 0 < 2 ^ w := Nat.pow_pos (by omega)
  obtain ⟨Ac, nc, cc, rfl, hlenc, _, _, _⟩ := st.row 0 rfl
  rw [flat_length _ 3 (fun _ => rfl)] at hlenc
  refine X_skip (X_seq (X_reg (XV rfl rfl rfl ?_)))
  refine XR_wa (opl_call (cut_spec width 1 15 _) rfl (by kernel_rfl)) rfl rfl rfl ?_
  rintro _ _ ⟨rfl, rfl⟩
  rw [hwi]
  refine XA rfl rfl rfl (XR_nil (X_seq (X_reg (XV rfl rfl rfl (XV rfl rfl rfl ?_)))))
  refine XR_a (op_shlC (m := 1) w rfl rfl (by simp only [IntKind.bits]; omega) (by simp only [inK]; omega)) rfl rfl ?_
  refine XR_as (.int .i64 (2 ^ w : Nat)) (by rw [Nat.one_mul]) ?_
  refine XR_wa (opl_mkS (n := 2 ^ w) (by omega) rfl rfl rfl rfl rfl) rfl rfl rfl ?_
  rintro vr hp hnew
  replace st := st.new hnew
  replace st := (id st : St h0.size h0 hp (row 259 3 vr (List.replicate (2 ^ w) [Value.int .i64 0, .int .i64 0, .bool false]).flatten :: _))
  rw [cellsR_zero] at st
  obtain ⟨gr, nr, cr, rfl, hlenr, _, _, _⟩ := st.row0 0 rfl (by rw [cellsR_len]; omega)
  rw [cellsR_len] at hlenr
  obtain rfl : nr = 2 ^ w := by omega
  refine XR_wa opl_mkMap rfl rfl rfl ?_
  rintro _ hp ⟨pm, rfl, hnew⟩
  replace st := st.new hnew
  refine XV rfl rfl rfl ?_
  refine XR_a (op_build (ps := [(0, nV w), (1, .slice (some ⟨gr, 0, none⟩) (2 ^ w) cr), (2, .map (some pm)), (3, .slice Ac nc cc)]) (cs := (tabC w (.slice (some ⟨gr, 0, none⟩) (2 ^ w) cr) pm (.slice Ac nc cc) 0).toArray) rfl rfl) rfl rfl ?_
  refine XR_wa (opl_bx rfl rfl) rfl rfl rfl ?_
  rintro _ hp ⟨p, rfl, hnew⟩
  have st := st.new hnew
  refine XA rfl rfl rfl (XR_nil (X_seq (X_reg (XV rfl rfl rfl (XV rfl rfl rfl (XR_a (op_nilCheck rfl) rfl rfl ?_))))))
  first | refine XR_a (op_field0 rfl rfl) rfl rfl ?_ | refine XR_a (op_fieldn rfl rfl) rfl rfl ?_
  refine XR_a (op_ld (st.cell 0 (i := 1) rfl rfl) rfl rfl rfl) rfl rfl ?_
  refine XR_a (op_len rfl rfl rfl) rfl rfl ?_
  refine XR_a (op_nilCheck rfl) rfl rfl ?_
  first | refine XR_a (op_field0 rfl rfl) rfl rfl ?_ | refine XR_a (op_fieldn rfl rfl) rfl rfl ?_
  refine XR_wn (opl_store_pt (i := 4) (v := nV (2 ^ w)) st 0 rfl rfl rfl rfl rfl rfl) rfl rfl fun _ hp st => ?_
  simp only [List.set_cons_zero, List.set_cons_succ] at st
  refine XR_nil (X_seq (X_seq (X_reg (XV rfl rfl rfl ?_))))
  refine XR_a (op_len rfl rfl rfl) rfl rfl ?_
  refine XV rfl rfl rfl (XR_nil (X_block ?_))
  replace st := st.re 4 [0, 2, 1, 3] (by decide)
  simp only [List.map_cons, List.map_nil, getR] at st
  refine X_loop (fun i => nc - i) (fun i => [(8, nV w), (9, .pointer (some ⟨p, 0, none⟩)), (41, .slice Ac nc cc), (42, .int .i64 (nc : Nat)), (43, .int .i64 (i : Nat))])
   (fun (i : Nat) hp => St h0.size h0 hp [pt p 254 (tabC w (.slice (some ⟨gr, 0, none⟩) (2 ^ w) cr) pm (.slice Ac nc cc) (2 ^ w)), row 259 3 (.slice (some ⟨gr, 0, none⟩) (2 ^ w) cr) (cellsR (rowQ (Q.take i) w) (2 ^ w)), mapR pm [], row 256 3 (.slice Ac nc cc) (Q.flatMap cC)] ∧ i ≤ nc)
   0 (.cons rfl (.cons rfl (.cons rfl (.cons rfl (.cons rfl (.nil _)))))) ⟨st, by omega⟩ ?_
  clear st hnew hy hx
  rintro i hp ⟨st, hi⟩
  refine X_seq (X_reg ?_)
  refine XR_a (op_lss rfl rfl) rfl rfl ?_
  refine XR_nil (X_seq ?_)
  refine X_if rfl (fun h => ?_) (fun h => ?_)
  ·have hilt : i < Q.length := by omega
   obtain ⟨gc, oc, rfl, hcc⟩ := Rd.flat cC 3 (st.rdS 3 rfl).2 (fun _ => rfl) (by omega) (by omega)
   have hQc := hQ.len Q[i] (List.getElem_mem hilt)
   have hQb := hQ.bits Q[i] (List.getElem_mem hilt)
   have htk := List.take_succ_eq_append_getElem hilt
   have hQt : QOk (Q.take i ++ [Q[i]]) := by rw [← htk]; exact hQ.sub fun c hc => List.mem_of_mem_take hc
   have hQt0 : QOk (Q.take i) := hQ.sub fun c hc => List.mem_of_mem_take hc
   have hcell := hcc i hilt
   obtain ⟨c, hce⟩ : ∃ c, Q[i] = c := ⟨_, rfl⟩
   rw [hce] at hQc hQb htk hQt hcell
   have hb15 : c.2.1 < 32768 := Nat.lt_of_lt_of_le hQb (Nat.pow_le_pow_right (n := 2) (by omega) hQc.2)
   refine X_skip (X_seq (X_block (X_seq (X_reg ?_))))
   refine XR_a (op_index (i := i) rfl rfl rfl (by omega)) rfl rfl ?_
   refine XR_a (op_ldA (vs := cC c) (fun j u hu => hcell j u hu) rfl rfl rfl rfl) rfl rfl ?_
   refine XR_wa (opl_new rfl) rfl rfl rfl ?_
   rintro _ hp ⟨px, rfl, hnew⟩
   replace st := st.new hnew
   refine XR_wn (opl_store_whole st 0 rfl rfl rfl rfl rfl (one_cC c) rfl) rfl rfl fun _ hp st => ?_
   simp only [List.set_cons_zero, List.set_cons_succ] at st
   refine XR_nil (X_seq (X_seq (X_reg ?_)))
   first | refine XR_a (op_field0 rfl rfl) rfl rfl ?_ | refine XR_a (op_fieldn rfl rfl) rfl rfl ?_
   refine XR_a (op_ld (st.cell 0 (i := 2) rfl rfl) rfl rfl rfl) rfl rfl ?_
   refine XV rfl rfl rfl ?_
   refine XR_a (op_leq rfl rfl) rfl rfl ?_
   refine XR_nil ?_
   refine X_if rfl (fun h => ?_) (fun h => ?_)
   ·refine X_seq ?_
    refine X_draw byKind (by kernel_rfl) (by kernel_rfl) ?_
    refine XV rfl rfl rfl (XR_a (op_nilCheck rfl) rfl rfl ?_)
    first | refine XR_a (op_field0 rfl rfl) rfl rfl ?_ | refine XR_a (op_fieldn rfl rfl) rfl rfl ?_
    refine XR_a (op_ld (st.cell 1 (i := 1) rfl rfl) rfl rfl rfl) rfl rfl ?_
    refine XR_a (op_ldA (vs := cC c) (st.cells 0 rfl) rfl rfl rfl rfl) rfl rfl ?_
    refine XR_wa (opl_call (fill_spec (c := c) (past := 0) ((st.re 5 [2, 0, 1, 3, 4] (by decide)).here) hpw hQc.2 (by omega) hQb) rfl (by kernel_rfl)) rfl rfl rfl ?_
    rintro _ hp ⟨_, st2⟩
    replace st := ((st.re 5 [2, 0, 1, 3, 4] (by decide)).trans st2).re 5 [1, 2, 0, 3, 4] (by decide)
    simp only [List.map_cons, List.map_nil, getR] at st
    have hstep : cellsR (fun j => if j % 2 ^ (c.2.2 - 0) = c.2.1 / 2 ^ 0 then symQ c else rowQ (Q.take i) w j) (2 ^ w) = cellsR (rowQ (Q.take (i + 1)) w) (2 ^ w) := cellsR_congr fun j _ => by
     rw [htk, rowQ_short hQt (by omega), Nat.sub_zero, Nat.pow_zero, Nat.div_one]
    rw [hstep] at st
    refine XR_nil (X_exit rfl (X_reg ?_))
    first | refine XR_a (op_addN (n := 1) rfl rfl (by simp only [inK]; omega)) rfl rfl ?_ | refine XR_a (op_addI rfl rfl (by simp only [inK]; omega)) rfl rfl ?_ | refine XR_a (op_add rfl rfl) rfl rfl ?_
    refine XV rfl rfl rfl (XR_nil ?_)
    exact X_again (i + 1) (.cons rfl (.cons rfl (.cons rfl (.cons rfl (.cons rfl (.nil _)))))) ⟨st.tail, by omega⟩ (by omega)
   ·obtain ⟨m, hme⟩ : ∃ m, c.2.1 % 2 ^ w = m := ⟨_, rfl⟩
    have hm : m < 2 ^ w := by rw [← hme]; exact Nat.mod_lt _ hpw0
    have hrl := rowQ_len hQt0 w m
    have hst10 : ∀ {hp : Heap} (j : Nat) {v : Value}, (rC (rowQ (Q.take i) w m))[j]? = some v → j < 3 → Rd hp (some ⟨gr, 0, none⟩) (cellsR (rowQ (Q.take i) w) (2 ^ w)) → cellH hp ⟨gr, 0 + m * 3 + j, none⟩ = some v := by
     intro hp j v hv hj hrd
     obtain ⟨g', o', e', hc'⟩ := hrd.at_ (by rw [cellsR_len]; omega)
     cases e'
     have := hc' (m * 3 + j) v (by rw [cellsR_get _ hm hj]; exact hv)
     rwa [← Nat.add_assoc] at this
    refine X_skip (X_seq ?_)
    refine X_draw byKind (by kernel_rfl) (by kernel_rfl) ?_
    first | refine XR_a (op_field0 rfl rfl) rfl rfl ?_ | refine XR_a (op_fieldn rfl rfl) rfl rfl ?_
    refine XR_a (op_ld (st.cell 0 (i := 1) rfl rfl) rfl rfl rfl) rfl rfl ?_
    refine XV rfl rfl rfl (XR_a (op_nilCheck rfl) rfl rfl ?_)
    first | refine XR_a (op_field0 rfl rfl) rfl rfl ?_ | refine XR_a (op_fieldn rfl rfl) rfl rfl ?_
    refine XR_a (op_ld (st.cell 1 (i := 1) rfl rfl) rfl rfl rfl) rfl rfl ?_
    refine XR_a (op_len rfl rfl rfl) rfl rfl ?_
    refine XR_a (op_subN (m := 2 ^ w) (n := 1) rfl rfl (by omega) (by simp only [inK]; omega)) rfl rfl ?_
    refine XR_a (op_andS (m := c.2.1) (n := 2 ^ w - 1) rfl rfl (by simp only [inK]; omega) (by simp only [inK]; omega)) rfl rfl ?_
    refine XR_as (.int .i64 (m : Nat)) (by rw [and_low, hme]) ?_
    refine XA rfl rfl rfl (XR_nil ?_)
    refine X_draw byKind (by kernel_rfl) (by kernel_rfl) ?_
    refine XV rfl rfl rfl (XR_a (op_nilCheck rfl) rfl rfl ?_)
    first | refine XR_a (op_field0 rfl rfl) rfl rfl ?_ | refine XR_a (op_fieldn rfl rfl) rfl rfl ?_
    refine XR_a (op_ld (st.cell 1 (i := 1) rfl rfl) rfl rfl rfl) rfl rfl ?_
    refine XV rfl rfl rfl (XV rfl rfl rfl (XR_a (op_nilCheck rfl) rfl rfl ?_))
    first | refine XR_a (op_field0 rfl rfl) rfl rfl ?_ | refine XR_a (op_fieldn rfl rfl) rfl rfl ?_
    refine XR_a (op_ld (st.cell 1 (i := 1) rfl rfl) rfl rfl rfl) rfl rfl ?_
    refine XV rfl rfl rfl ?_
    refine XR_a (op_index (i := m) rfl rfl rfl (by omega)) rfl rfl ?_
    first | refine XR_a (op_field0 rfl rfl) rfl rfl ?_ | refine XR_a (op_fieldn rfl rfl) rfl rfl ?_
    refine XR_a (op_ld (hst10 1 rfl (by omega) (st.rdS 2 rfl).2) rfl rfl rfl) rfl rfl ?_
    first | refine XR_a (op_field0 rfl rfl) rfl rfl ?_ | refine XR_a (op_fieldn rfl rfl) rfl rfl ?_
    refine XR_a (op_ld (st.cell 0 (i := 2) rfl rfl) rfl rfl rfl) rfl rfl ?_
    refine XR_a (op_max2 rfl rfl) rfl rfl ?_
    refine XR_as (.int .i64 (max (rowQ (Q.take i) w m).2.1 c.2.2 : Nat)) (congrArg (Value.int .i64) (by omega)) ?_
    refine XR_a (op_build (ps := [(1, nV (max (rowQ (Q.take i) w m).2.1 c.2.2)), (2, .bool true)]) (cs := (rC (0, max (rowQ (Q.take i) w m).2.1 c.2.2, true)).toArray) rfl rfl) rfl rfl ?_
    refine XR_a (op_index (i := m) rfl rfl rfl (by omega)) rfl rfl ?_
    refine XR_wn (opl_store_rows (us := rC (0, max (rowQ (Q.take i) w m).2.1 c.2.2, true)) (o := m * 3) st 2 rfl (congrArg (fun x => some (Value.pointer (some ⟨gr, x, none⟩))) (Nat.zero_add _)) rfl rfl rfl (one_rC _) (by rw [cellsR_len]; simp; omega)) rfl rfl fun _ hp st => ?_
    simp only [List.set_cons_zero, List.set_cons_succ] at st
    rw [show (rC (0, max (rowQ (Q.take i) w m).2.1 c.2.2, true)).length = 3 from rfl, cellsR_set _ hm] at st
    have hstep : cellsR (fun j => if j = m then (0, max (rowQ (Q.take i) w m).2.1 c.2.2, true) else rowQ (Q.take i) w j) (2 ^ w) = cellsR (rowQ (Q.take (i + 1)) w) (2 ^ w) := cellsR_congr fun j _ => by
     rw [htk, rowQ_long hQt (by omega), hme]
     by_cases hj : j = m
     ·subst hj; simp
     ·rw [if_neg hj, if_neg hj]
    rw [hstep] at st
    refine XR_nil (X_blk (X_reg ?_))
    first | refine XR_a (op_addN (n := 1) rfl rfl (by simp only [inK]; omega)) rfl rfl ?_ | refine XR_a (op_addI rfl rfl (by simp only [inK]; omega)) rfl rfl ?_ | refine XR_a (op_add rfl rfl) rfl rfl ?_
    refine XV rfl rfl rfl (XR_nil ?_)
    exact X_again (i + 1) (.cons rfl (.cons rfl (.cons rfl (.cons rfl (.cons rfl (.nil _)))))) ⟨st.tail, by omega⟩ (by omega)
  ·obtain rfl : i = nc := by omega
   rw [List.take_of_length_le (by omega)] at st
   refine X_exit rfl (X_seq (X_seq (X_reg (XV rfl rfl rfl (XR_a (op_nilCheck rfl) rfl rfl ?_)))))
   first | refine XR_a (op_field0 rfl rfl) rfl rfl ?_ | refine XR_a (op_fieldn rfl rfl) rfl rfl ?_
   refine XR_a (op_ld (st.cell 0 (i := 1) rfl rfl) rfl rfl rfl) rfl rfl ?_
   refine XR_a (op_len rfl rfl rfl) rfl rfl ?_
   refine XV rfl rfl rfl (XR_nil (X_block ?_))
   replace st := (St.emp.2 st).re 5 [1, 2, 3, 4, 0] (by decide)
   simp only [List.map_cons, List.map_nil, getR] at st
   refine X_loop (fun s => 2 ^ w - s.1) (fun s => [(8, nV w), (9, .pointer (some ⟨p, 0, none⟩)), (88, .slice (some ⟨gr, 0, none⟩) (2 ^ w) cr), (89, .int .i64 (2 ^ w : Nat)), (90, .int .i64 (s.1 : Nat))])
    (fun (s : Nat × List (Nat × Value)) hp => St h0.size h0 hp [pt p 254 (tabC w (.slice (some ⟨gr, 0, none⟩) (2 ^ w) cr) pm (.slice Ac i cc) (sizeTo Q w s.1)), row 259 3 (.slice (some ⟨gr, 0, none⟩) (2 ^ w) cr) (cellsR (rowQ Q w) (2 ^ w)), mapR pm (keysOf s.2), row 256 3 (.slice Ac i cc) (Q.flatMap cC), bigR (moreR Q w) s.2] ∧ s.2.map (·.1) = (deepTo Q w s.1).reverse ∧ s.1 ≤ 2 ^ w)
    (0, []) (.cons rfl (.cons rfl (.cons rfl (.cons rfl (.cons rfl (.nil _)))))) ⟨by rw [sizeTo_zero]; exact st, rfl, by simp⟩ ?_
   clear st
   rintro ⟨m, D⟩ hp ⟨st, hD, hmle⟩
   simp only at st hD hmle ⊢
   refine X_seq (X_reg ?_)
   refine XR_a (op_lss rfl rfl) rfl rfl ?_
   refine XR_nil (X_seq ?_)
   refine X_if rfl (fun h => ?_) (fun h => ?_)
   ·have hm : m < 2 ^ w := by omega
    have hds := deepTo_succ Q w m
    have hsz : sizeTo Q w (m + 1) = sizeTo Q w m + if (rowQ Q w m).2.2 = true then 2 ^ ((rowQ Q w m).2.1 - w) else 0 := sizeTo_succ Q w m
    have hszl := sizeTo_le hQ hw.2 m
    have hcell : ∀ j u, (rC (rowQ Q w m))[j]? = some u → cellH hp ⟨gr, 0 + m * 3 + j, none⟩ = some u := by
     intro j u hu
     obtain ⟨g', o', e', hc'⟩ := (st.rdS 1 rfl).2.at_ (by rw [cellsR_len]; omega)
     cases e'
     have hj : j < 3 := (List.getElem?_eq_some_iff.1 hu).1
     have := hc' (m * 3 + j) u (by rw [cellsR_get _ hm hj]; exact hu)
     rwa [← Nat.add_assoc] at this
    refine X_skip (X_seq (X_block (X_seq (X_reg (XV rfl rfl rfl ?_)))))
    refine XR_a (op_index (i := m) rfl rfl rfl (by omega)) rfl rfl ?_
    refine XR_a (op_ldA (vs := rC (rowQ Q w m)) hcell rfl rfl rfl rfl) rfl rfl ?_
    refine XR_wa (opl_new rfl) rfl rfl rfl ?_
    rintro _ hp ⟨pr, rfl, hnew⟩
    replace st := st.new hnew
    refine XA rfl rfl rfl ?_
    refine XR_wn (opl_store_whole st 0 rfl rfl rfl rfl rfl (one_rC (rowQ Q w m)) rfl) rfl rfl fun _ hp st => ?_
    simp only [List.set_cons_zero, List.set_cons_succ] at st
    refine XR_nil (X_seq (X_reg ?_))
    first | refine XR_a (op_field0 rfl rfl) rfl rfl ?_ | refine XR_a (op_fieldn rfl rfl) rfl rfl ?_
    refine XR_a (op_ld (st.cell 0 (i := 2) rfl rfl) rfl rfl rfl) rfl rfl ?_
    refine XR_nil ?_
    refine X_cond rfl (fun h => ?_) (fun h => ?_)
    ·obtain ⟨hre, hL0⟩ := rowQ_deep h
     obtain ⟨c0, hc0, hcl0, hLe⟩ := longest_in hL0
     have hL1 := (longQ_iff.1 hcl0).1
     have hL2 := longest_le hQ w m
     have hfresh : ∀ q ∈ keysOf D, q.1 ≠ (m : Int) := by
      intro q hq e
      obtain ⟨x, hx, rfl⟩ := List.mem_map.1 hq
      have hx1 : x.1 ∈ D.map (·.1) := List.mem_map.2 ⟨x, List.mem_reverse.1 hx, rfl⟩
      rw [hD, List.mem_reverse] at hx1
      have := List.mem_range.1 (List.mem_filter.1 hx1).1
      simp only at e; omega
     rw [h, if_pos rfl] at hds hsz
     rw [hre] at hsz
     refine X_reg (XV rfl rfl rfl (XV rfl rfl rfl ?_))
     refine XR_a (op_ldA (vs := rC (rowQ Q w m)) (st.cells 0 rfl) rfl rfl rfl rfl) rfl rfl ?_
     rw [hre]
     refine XR_wa (opl_call (deepen_spec (F := [bigR (moreR Q w) D, pt pr 259 (rC (rowQ Q w m))]) (m := m) (L := longest Q w m) (R := rowQ Q w) (l := keysOf D) (Q := Q) ((st.re 6 [1, 2, 3, 4, 5, 0] (by decide)).here) hQ hw hm ⟨by omega, hL2⟩ (fun c hc hl => longest_ge hc hl) rfl hfresh (by omega) (by omega)) rfl (by kernel_rfl)) rfl rfl rfl ?_
     rintro _ hp ⟨_, vm, st2⟩
     replace st := ((st.re 6 [1, 2, 3, 4, 5, 0] (by decide)).trans st2).re 7 [0, 5, 1, 2, 3, 4, 6] (by decide)
     simp only [List.map_cons, List.map_nil, getR] at st
     replace st := ((St.star.2 st).re 6 [1, 2, 3, 4, 0, 5] (by decide)).keep 5
     simp only [List.map_cons, List.map_nil, getR] at st
     refine XR_nil (X_blk (X_reg ?_))
     first | refine XR_a (op_addN (n := 1) rfl rfl (by simp only [inK]; omega)) rfl rfl ?_ | refine XR_a (op_addI rfl rfl (by simp only [inK]; omega)) rfl rfl ?_ | refine XR_a (op_add rfl rfl) rfl rfl ?_
     refine XV rfl rfl rfl (XR_nil ?_)
     refine X_again (m + 1, (m, vm) :: D) (.cons rfl (.cons rfl (.cons rfl (.cons rfl (.cons rfl (.nil _)))))) ⟨?_, by rw [List.map_cons, hD, hds, List.reverse_append]; rfl, by simp only; omega⟩ (by simp only; omega)
     have e : keysOf ((m, vm) :: D) = keysOf D ++ [((m : Int), vm)] := by unfold keysOf; simp
     simp only
     rw [e, hsz]
     exact st
    ·refine X_skip (X_blk (X_reg ?_))
     first | refine XR_a (op_addN (n := 1) rfl rfl (by simp only [inK]; omega)) rfl rfl ?_ | refine XR_a (op_addI rfl rfl (by simp only [inK]; omega)) rfl rfl ?_ | refine XR_a (op_add rfl rfl) rfl rfl ?_
     refine XV rfl rfl rfl (XR_nil ?_)
     rw [h, if_neg (by simp), List.append_nil] at hds
     replace hsz : sizeTo Q w (m + 1) = sizeTo Q w m := by rw [hsz, h]; simp
     rw [← hds] at hD
     rw [← hsz] at st
     exact X_again (m + 1, D) (.cons rfl (.cons rfl (.cons rfl (.cons rfl (.cons rfl (.nil _)))))) ⟨st.tail, hD, by simp only; omega⟩ (by simp only; omega)
   ·refine X_exit rfl (X_seq (X_reg (XV rfl rfl rfl (XA rfl rfl rfl (XA rfl rfl rfl (XR_nil ?_))))))
    refine X_ret (.cons (.tmp rfl) (.cons (.tmp rfl) .nil)) ?_
    obtain rfl : m = 2 ^ w := by omega
    exact ⟨_, by rw [errC_zero.2 hR], st.low, fun _ => ⟨p, rfl, St.untab hD st⟩, fun hh => absurd hR hh⟩
end Go.Bn
end

section
set_option linter.unusedVariables false
set_option linter.unusedSimpArgs false
set_option maxHeartbeats 4000000
set_option maxRecDepth 20000
namespace Go.Bn
open Go Proofs
theorem St.big {B : Nat} {h0 hp : Heap} {f : Nat × Value → Res} {x : Nat × Value} : ∀ {D : List (Nat × Value)} {F : List Res}, x ∈ D → St B h0 hp (bigR f D :: F) → ∃ F', St B h0 hp (f x :: F')
 | y :: D, F, h, st => by
  have s1 := St.star.1 st
  rcases List.mem_cons.1 h with rfl | h1
  ·exact ⟨_, s1⟩
  ·exact St.big h1 (s1.perm rot)
theorem deepTo_mem {Q : List QC} {w m : Nat} (hm : m < 2 ^ w) (h : (rowQ Q w m).2.2 = true) : m ∈ deepTo Q w (2 ^ w) := List.mem_filter.2 ⟨List.mem_range.2 hm, h⟩
theorem deepTo_nodup (Q : List QC) (w n : Nat) : (deepTo Q w n).Nodup := List.Nodup.sublist List.filter_sublist List.nodup_range
theorem keysOf_one {D : List (Nat × Value)} {m : Nat} {vm : Value} (hn : (D.map (·.1)).Nodup) (hm : (m, vm) ∈ D) : ((m : Int), vm) ∈ keysOf D ∧ ∀ q ∈ keysOf D, q.1 = (m : Int) → q.2 = vm := by
 refine ⟨List.mem_map.2 ⟨(m, vm), List.mem_reverse.2 hm, rfl⟩, fun q hq e => ?_⟩
 obtain ⟨x, hx, rfl⟩ := List.mem_map.1 hq
 replace hx : x ∈ D := List.mem_reverse.1 hx
 have e : x.1 = m := by simp only at e; omega
 clear hq
 induction D with
 | nil => cases hx
 | cons y D ih =>
  rw [List.map_cons, List.nodup_cons] at hn
  rcases List.mem_cons.1 hm with h1 | h1 <;> rcases List.mem_cons.1 hx with h2 | h2
  ·rw [h2, ← h1]
  ·exact absurd (List.mem_map.2 ⟨x, h2, by rw [e, ← h1]⟩) hn.1
  ·exact absurd (List.mem_map.2 ⟨(m, vm), h1, by rw [← h2]; exact e.symm⟩) hn.1
  ·exact ih hn.2 h1 h2
theorem qfind_spec {B p w x : Nat} {Q : List QC} {F : List Res} {hb h0 : Heap} (st : St B hb h0 (tabR p Q w :: F)) (hQ : QOk Q) (hw : 1 ≤ w ∧ w ≤ 15) (hx : x < 32768) :
  Ret Tryz.prog 208 [.pointer (some ⟨p, 0, none⟩), .int .i64 (x : Int)] h0 fun v h' => v = .agg (rC (findQ Q w x)).toArray ∧ Ext h0 h' := by
 have hpw : 2 ^ w ≤ 32768 := Nat.pow_le_pow_right (n := 2) (by omega) hw.2
 have hpw0 : 0 < 2 ^ w := Nat.pow_pos (by omega)
 obtain ⟨m, hme⟩ : ∃ m, x % 2 ^ w = m := ⟨_, rfl⟩
 have hm : m < 2 ^ w := by rw [← hme]; exact Nat.mod_lt _ hpw0
 have hrl := rowQ_len hQ w m
 refine ret_of_X Tryz.func208 rfl rfl fun w0 hw0 => ?_
 simp only [argE, Nat.zero_add, Nat.reduceAdd]
 have sn := St.start h0
 refine X_seq (X_reg ?_)
 refine XR_wa (opl_new rfl) rfl rfl rfl ?_
 rintro _ hp ⟨px, rfl, hnew⟩
 replace sn := sn.new hnew
 obtain ⟨vr, pm, vc, D, hd, so⟩ := (st.ext hnew.1).tab
 obtain ⟨gr, nr, cr, rfl, hlenr, _, _, hrd⟩ := so.row0 1 rfl (by rw [cellsR_len]; omega)
 rw [cellsR_len] at hlenr
 obtain rfl : nr = 2 ^ w := by omega
 refine XR_nil (X_seq (X_reg (XV rfl rfl rfl (XV rfl rfl rfl (XR_a (op_nilCheck rfl) rfl rfl ?_)))))
 first | refine XR_a (op_field0 rfl rfl) rfl rfl ?_ | refine XR_a (op_fieldn rfl rfl) rfl rfl ?_
 refine XR_a (op_ld (so.cell 0 (i := 1) rfl rfl) rfl rfl rfl) rfl rfl ?_
 refine XR_a (op_len rfl rfl rfl) rfl rfl ?_
 refine XR_a (op_subN (m := 2 ^ w) (n := 1) rfl rfl (by omega) (by simp only [inK]; omega)) rfl rfl ?_
 refine XR_a (op_andS (m := x) (n := 2 ^ w - 1) rfl rfl (by simp only [inK]; omega) (by simp only [inK]; omega)) rfl rfl ?_
 refine XR_as (.int .i64 (m : Nat)) (by rw [and_low, hme]) ?_
 refine XA rfl rfl rfl (XR_nil (X_seq (X_reg (XV rfl rfl rfl (XR_a (op_nilCheck rfl) rfl rfl ?_)))))
 first | refine XR_a (op_field0 rfl rfl) rfl rfl ?_ | refine XR_a (op_fieldn rfl rfl) rfl rfl ?_
 refine XR_a (op_ld (so.cell 0 (i := 1) rfl rfl) rfl rfl rfl) rfl rfl ?_
 refine XV rfl rfl rfl ?_
 refine XR_a (op_index (i := m) rfl rfl rfl (by omega)) rfl rfl ?_
 refine XR_a (op_ldA (vs := rC (rowQ Q w m)) (fun j u hu => by
  obtain ⟨g', o', e', hc'⟩ := hrd.at_ (by rw [cellsR_len]; omega)
  cases e'
  have hj : j < 3 := (List.getElem?_eq_some_iff.1 hu).1
  have := hc' (m * 3 + j) u (by rw [cellsR_get _ hm hj]; exact hu)
  rwa [← Nat.add_assoc] at this) rfl rfl rfl rfl) rfl rfl ?_
 refine XR_wa (opl_new rfl) rfl rfl rfl ?_
 rintro _ hp ⟨py, rfl, hnew⟩
 replace sn := sn.new hnew
 refine XR_wn (opl_store_whole (us := rC (rowQ Q w m)) sn 0 rfl rfl rfl rfl rfl (one_rC _) rfl) rfl rfl fun _ hp sn => ?_
 simp only [List.set_cons_zero, List.set_cons_succ] at sn
 obtain ⟨vr', pm', vc', D', hd', so'⟩ := (st.ext sn.low).tab
 refine XR_nil (X_seq (X_seq (X_reg ?_)))
 first | refine XR_a (op_field0 rfl rfl) rfl rfl ?_ | refine XR_a (op_fieldn rfl rfl) rfl rfl ?_
 refine XR_a (op_ld (sn.cell 0 (i := 2) rfl rfl) rfl rfl rfl) rfl rfl ?_
 refine XR_nil ?_
 refine X_cond rfl (fun h => ?_) (fun h => ?_)
 ·obtain ⟨hre, hL0⟩ := rowQ_deep h
  obtain ⟨c0, hc0, hcl0, hLe⟩ := longest_in hL0
  have hL1 := (longQ_iff.1 hcl0).1
  have hL2 := longest_le hQ w m
  have hpL : 2 ^ (longest Q w m - w) ≤ 32768 := Nat.pow_le_pow_right (n := 2) (by omega) (show longest Q w m - w ≤ 15 by omega)
  have hpL0 : 0 < 2 ^ (longest Q w m - w) := Nat.pow_pos (by omega)
  have hmem : m ∈ D'.map (·.1) := by rw [hd', List.mem_reverse]; exact deepTo_mem hm h
  obtain ⟨y, hy, hy1⟩ := List.mem_map.1 hmem
  obtain ⟨m', vm⟩ := y
  obtain rfl : m' = m := hy1
  obtain ⟨k1, k2⟩ := keysOf_one (by rw [hd']; exact List.pairwise_reverse.2 ((deepTo_nodup Q w _).imp fun h => Ne.symm h)) hy
  obtain ⟨F', sf⟩ := St.big hy so'.tail.tail.tail.tail
  obtain ⟨gv, nv, cv, rfl, hlenv, _, _, hrdv⟩ := St.row0 sf 0 rfl (by rw [cellsR_len]; simp only; omega)
  rw [cellsR_len] at hlenv
  obtain rfl : nv = 2 ^ (longest Q w m' - w) := by simp only at hlenv; omega
  obtain ⟨jj, hjj⟩ : ∃ jj, x / 2 ^ w % 2 ^ (longest Q w m' - w) = jj := ⟨_, rfl⟩
  have hjl : jj < 2 ^ (longest Q w m' - w) := by rw [← hjj]; exact Nat.mod_lt _ hpL0
  have hfin : findQ Q w x = moreQ Q w m' jj := by unfold findQ; rw [hme, hre]; simp only [if_true]; rw [hjj]
  have hxd : x / 2 ^ w ≤ 32768 := Nat.le_trans (Nat.div_le_self _ _) (by omega)
  obtain ⟨xd, hxde⟩ : ∃ xd, x / 2 ^ w = xd := ⟨_, rfl⟩
  rw [hxde] at hxd hjj
  refine X_seq (X_reg (XV rfl rfl rfl (XR_a (op_nilCheck rfl) rfl rfl ?_)))
  first | refine XR_a (op_field0 rfl rfl) rfl rfl ?_ | refine XR_a (op_fieldn rfl rfl) rfl rfl ?_
  refine XR_a (op_ld (so'.cell 0 (i := 2) rfl rfl) rfl rfl rfl) rfl rfl ?_
  refine XV rfl rfl rfl ?_
  refine XR_wa (opl_mapGet so' 2 rfl k1 k2 rfl rfl rfl) rfl rfl rfl ?_
  rintro _ _ ⟨rfl, rfl⟩
  refine XA rfl rfl rfl (XR_nil (X_reg (XV rfl rfl rfl (XV rfl rfl rfl (XV rfl rfl rfl (XR_a (op_nilCheck rfl) rfl rfl ?_))))))
  first | refine XR_a (op_field0 rfl rfl) rfl rfl ?_ | refine XR_a (op_fieldn rfl rfl) rfl rfl ?_
  refine XR_a (op_ld (so'.cell 0 (i := 0) rfl rfl) rfl rfl rfl) rfl rfl ?_
  refine XR_a (op_shrC (m := x) w rfl rfl (by simp only [IntKind.bits]; omega)) rfl rfl ?_
  refine XR_as (.int .i64 (xd : Nat)) (by rw [hxde]) ?_
  refine XV rfl rfl rfl ?_
  refine XR_a (op_len rfl rfl rfl) rfl rfl ?_
  refine XR_a (op_subN (m := 2 ^ (longest Q w m' - w)) (n := 1) rfl rfl (by omega) (by simp only [inK]; omega)) rfl rfl ?_
  refine XR_a (op_andS (m := xd) (n := 2 ^ (longest Q w m' - w) - 1) rfl rfl (by simp only [inK]; omega) (by simp only [inK]; omega)) rfl rfl ?_
  refine XR_as (.int .i64 (jj : Nat)) (by rw [and_low, hjj]) ?_
  refine XR_a (op_index (i := jj) rfl rfl rfl (by omega)) rfl rfl ?_
  refine XR_a (op_ldA (vs := rC (moreQ Q w m' jj)) (fun j u hu => by
   obtain ⟨g', o', e', hc'⟩ := hrdv.at_ (by rw [cellsR_len]; simp only; omega)
   cases e'
   have hj : j < 3 := (List.getElem?_eq_some_iff.1 hu).1
   have := hc' (jj * 3 + j) u (by rw [cellsR_get _ hjl hj]; exact hu)
   rwa [← Nat.add_assoc] at this) rfl rfl rfl rfl) rfl rfl ?_
  refine XR_wn (opl_store_whole (us := rC (moreQ Q w m' jj)) sn 0 rfl rfl rfl rfl rfl (one_rC _) rfl) rfl rfl fun _ hp sn => ?_
  simp only [List.set_cons_zero, List.set_cons_succ] at sn
  rw [← hfin] at sn
  refine XR_nil (X_seq (X_reg ?_))
  refine XR_a (op_ldA (vs := rC (findQ Q w x)) (sn.cells 0 rfl) rfl rfl rfl rfl) rfl rfl ?_
  refine XR_wn (opl_store_whole (us := rC (findQ Q w x)) sn 1 rfl rfl rfl rfl rfl (one_rC _) rfl) rfl rfl fun _ hp sn => ?_
  simp only [List.set_cons_zero, List.set_cons_succ] at sn
  refine XR_nil ?_
  refine X_ret (.cons (RV_agg (vs := rC (findQ Q w x)) rfl rfl rfl (sn.cells 1 rfl)) .nil) ?_
  exact ⟨rfl, sn.low⟩
 ·have hfin : findQ Q w x = rowQ Q w m := by unfold findQ; rw [hme, h]; simp
  rw [← hfin] at sn
  refine X_skip (X_seq (X_reg ?_))
  refine XR_a (op_ldA (vs := rC (findQ Q w x)) (sn.cells 0 rfl) rfl rfl rfl rfl) rfl rfl ?_
  refine XR_wn (opl_store_whole (us := rC (findQ Q w x)) sn 1 rfl rfl rfl rfl rfl (one_rC _) rfl) rfl rfl fun _ hp sn => ?_
  simp only [List.set_cons_zero, List.set_cons_succ] at sn
  refine XR_nil ?_
  refine X_ret (.cons (RV_agg (vs := rC (findQ Q w x)) rfl rfl rfl (sn.cells 1 rfl)) .nil) ?_
  exact ⟨rfl, sn.low⟩
end Go.Bn
end

section
set_option linter.unusedVariables false
set_option linter.unusedSimpArgs false
set_option maxHeartbeats 4000000
set_option maxRecDepth 20000
namespace Go.Bn
open Go Proofs
theorem qshort_spec {B p w x left : Nat} {Q : List QC} {F : List Res} {hb h0 : Heap} (st : St B hb h0 (tabR p Q w :: F)) (hQ : QOk Q) (hx : x < 32768) (hl : left ≤ 15) (hql : Q.length ≤ 1000) :
  Ret Tryz.prog 209 [.pointer (some ⟨p, 0, none⟩), .int .i64 (x : Int), .int .i64 (left : Int)] h0 fun v h' => v = .bool (shortB Q left x) ∧ Ext h0 h' := by
 have hpl : 2 ^ left ≤ 32768 := Nat.pow_le_pow_right (n := 2) (by omega) hl
 have hpl0 : 0 < 2 ^ left := Nat.pow_pos (by omega)
 obtain ⟨vr, pm, vc, D, hd, so⟩ := st.tab
 obtain ⟨Ac, nc, cc, rfl, hlenc, _, _, hrd⟩ := so.row 3 rfl
 rw [flat_length _ 3 (fun _ => rfl)] at hlenc
 refine ret_of_X Tryz.func209 rfl rfl fun w0 hw0 => ?_
 simp only [argE, Nat.zero_add, Nat.reduceAdd]
 refine X_seq (X_reg (XA rfl rfl rfl (XR_nil ?_)))
 refine X_scope rfl (fun _ _ _ hh => hh) ?_
 refine X_seq (X_reg (XA rfl rfl rfl (XR_nil (X_seq ?_))))
 refine X_label ?_
 refine X_seq (X_seq (X_reg (XV rfl rfl rfl (XR_a (op_nilCheck rfl) rfl rfl ?_))))
 first | refine XR_a (op_field0 rfl rfl) rfl rfl ?_ | refine XR_a (op_fieldn rfl rfl) rfl rfl ?_
 refine XR_a (op_ld (so.cell 0 (i := 3) rfl rfl) rfl rfl rfl) rfl rfl ?_
 refine XR_a (op_len rfl rfl rfl) rfl rfl ?_
 refine XV rfl rfl rfl (XR_nil (X_block ?_))
 refine X_loop (fun i => nc - i) (fun i => [(0, .pointer (some ⟨p, 0, none⟩)), (1, .int .i64 (x : Nat)), (2, .int .i64 (left : Nat)), (7, .bool false), (13, .slice Ac nc cc), (14, .int .i64 (nc : Nat)), (15, .int .i64 (i : Nat))])
  (fun (i : Nat) hp => Ext h0 hp ∧ i ≤ nc ∧ ∀ c ∈ Q.take i, beginQ left x c = false)
  0 (.cons rfl (.cons rfl (.cons rfl (.cons rfl (.cons rfl (.cons rfl (.cons rfl (.nil _)))))))) ⟨Ext.refl _, by omega, by simp⟩ ?_
 rintro i hp ⟨hxt, hi, hno⟩
 refine X_seq (X_reg ?_)
 refine XR_a (op_lss rfl rfl) rfl rfl ?_
 refine XR_nil (X_seq ?_)
 refine X_if rfl (fun h => ?_) (fun h => ?_)
 ·have hilt : i < Q.length := by omega
  obtain ⟨gc, oc, rfl, hcc⟩ := Rd.flat cC 3 (hrd.ext hxt) (fun _ => rfl) (by omega) (by omega)
  have hQc := hQ.len Q[i] (List.getElem_mem hilt)
  have hQb := hQ.bits Q[i] (List.getElem_mem hilt)
  have htk := List.take_succ_eq_append_getElem hilt
  have hcell := hcc i hilt
  have hmem := List.getElem_mem hilt
  obtain ⟨c, hce⟩ : ∃ c, Q[i] = c := ⟨_, rfl⟩
  rw [hce] at hQc hQb htk hcell hmem
  have hb15 : c.2.1 < 32768 := Nat.lt_of_lt_of_le hQb (Nat.pow_le_pow_right (n := 2) (by omega) hQc.2)
  have hnext : beginQ left x c = false → ∀ d ∈ Q.take (i + 1), beginQ left x d = false := by
   intro h d hd
   rw [htk] at hd
   rcases List.mem_append.1 hd with h1 | h1
   ·exact hno d h1
   ·rw [show d = c by simpa using h1]; exact h
  refine X_skip (X_seq (X_block (X_seq (X_reg ?_))))
  refine XR_a (op_index (i := i) rfl rfl rfl (by omega)) rfl rfl ?_
  refine XR_a (op_ldA (vs := cC c) (fun j u hu => hcell j u hu) rfl rfl rfl rfl) rfl rfl ?_
  refine XR_wa (opl_new rfl) rfl rfl rfl ?_
  rintro _ hp ⟨px, rfl, hnew⟩
  have sn := ((St.start h0).ext hxt).new hnew
  refine XR_wn (opl_store_whole sn 0 rfl rfl rfl rfl rfl (one_cC c) rfl) rfl rfl fun _ hp sn => ?_
  simp only [List.set_cons_zero, List.set_cons_succ] at sn
  refine XR_nil (X_seq ?_)
  refine X_draw byKind (by kernel_rfl) (by kernel_rfl) ?_
  first | refine XR_a (op_field0 rfl rfl) rfl rfl ?_ | refine XR_a (op_fieldn rfl rfl) rfl rfl ?_
  refine XR_a (op_ld (sn.cell 0 (i := 2) rfl rfl) rfl rfl rfl) rfl rfl ?_
  refine XV rfl rfl rfl ?_
  refine XR_a (op_gtr rfl rfl) rfl rfl ?_
  refine XV rfl rfl rfl ?_
  refine XR_if 23 rfl (fun h => ?_) (fun h => ?_)
  ·first | refine XR_a (op_field0 rfl rfl) rfl rfl ?_ | refine XR_a (op_fieldn rfl rfl) rfl rfl ?_
   refine XR_a (op_ld (sn.cell 0 (i := 1) rfl rfl) rfl rfl rfl) rfl rfl ?_
   refine XV rfl rfl rfl ?_
   refine XR_a (op_shlC (m := 1) left rfl rfl (by simp only [IntKind.bits]; omega) (by simp only [inK]; omega)) rfl rfl ?_
   refine XR_as (.int .i64 (2 ^ left : Nat)) (by rw [Nat.one_mul]) ?_
   refine XR_a (op_subN (m := 2 ^ left) (n := 1) rfl rfl (by omega) (by simp only [inK]; omega)) rfl rfl ?_
   refine XR_a (op_andS (m := c.2.1) (n := 2 ^ left - 1) rfl rfl (by simp only [inK]; omega) (by simp only [inK]; omega)) rfl rfl ?_
   refine XR_as (.int .i64 (c.2.1 % 2 ^ left : Nat)) (by rw [and_low]) ?_
   refine XV rfl rfl rfl (XV rfl rfl rfl ?_)
   refine XR_a (op_shlC (m := 1) left rfl rfl (by simp only [IntKind.bits]; omega) (by simp only [inK]; omega)) rfl rfl ?_
   refine XR_as (.int .i64 (2 ^ left : Nat)) (by rw [Nat.one_mul]) ?_
   refine XR_a (op_subN (m := 2 ^ left) (n := 1) rfl rfl (by omega) (by simp only [inK]; omega)) rfl rfl ?_
   refine XR_a (op_andS (m := x) (n := 2 ^ left - 1) rfl rfl (by simp only [inK]; omega) (by simp only [inK]; omega)) rfl rfl ?_
   refine XR_as (.int .i64 (x % 2 ^ left : Nat)) (by rw [and_low]) ?_
   refine XR_a (op_eql rfl rfl) rfl rfl ?_
   refine XR_a (op_pick_t rfl rfl) rfl rfl (XR_nil ?_)
   refine X_if rfl (fun h => ?_) (fun h => ?_)
   ·refine X_seq (X_reg (XA rfl rfl rfl (XR_nil (X_exit rfl (X_seq (X_reg (XV rfl rfl rfl (XA rfl rfl rfl (XR_nil ?_)))))))))
    refine X_ret (.cons (.tmp rfl) .nil) ?_
    exact ⟨by rw [shortB_true hmem (beginQ_iff.2 ⟨by omega, by omega⟩)]; rfl, sn.low⟩
   ·refine X_skip (X_blk (X_reg ?_))
    first | refine XR_a (op_addN (n := 1) rfl rfl (by simp only [inK]; omega)) rfl rfl ?_ | refine XR_a (op_addI rfl rfl (by simp only [inK]; omega)) rfl rfl ?_ | refine XR_a (op_add rfl rfl) rfl rfl ?_
    refine XV rfl rfl rfl (XR_nil ?_)
    refine X_again (i + 1) (.cons rfl (.cons rfl (.cons rfl (.cons rfl (.cons rfl (.cons rfl (.cons rfl (.nil _)))))))) ⟨sn.low, by omega, hnext ?_⟩ (by omega)
    cases hh : beginQ left x c with
    | false => rfl
    | true => have := (beginQ_iff.1 hh).2; omega
  ·refine XR_no rfl rfl (XR_no rfl rfl (XR_no rfl rfl (XR_no rfl rfl (XR_no rfl rfl (XR_no rfl rfl (XR_no rfl rfl (XR_no rfl rfl (XR_no rfl rfl (XR_no rfl rfl ?_)))))))))
   refine XR_no rfl rfl (XR_no rfl rfl (XR_a (op_pick_f rfl rfl) rfl rfl (XR_nil (X_else rfl (X_skip (X_blk (X_reg ?_)))))))
   first | refine XR_a (op_addN (n := 1) rfl rfl (by simp only [inK]; omega)) rfl rfl ?_ | refine XR_a (op_addI rfl rfl (by simp only [inK]; omega)) rfl rfl ?_ | refine XR_a (op_add rfl rfl) rfl rfl ?_
   refine XV rfl rfl rfl (XR_nil ?_)
   refine X_again (i + 1) (.cons rfl (.cons rfl (.cons rfl (.cons rfl (.cons rfl (.cons rfl (.cons rfl (.nil _)))))))) ⟨sn.low, by omega, hnext ?_⟩ (by omega)
   cases hh : beginQ left x c with
   | false => rfl
   | true => have := (beginQ_iff.1 hh).1; omega
 ·refine X_exit rfl (X_seq (X_reg (XV rfl rfl rfl (XA rfl rfl rfl (XR_nil ?_)))))
  refine X_ret (.cons (.tmp rfl) .nil) ?_
  rw [List.take_of_length_le (by omega)] at hno
  exact ⟨by rw [shortB_false hno]; rfl, hxt⟩
theorem eqL_rC (r r' : QR) : eqL (rC r) (rC r') = decide (r = r') := by
 obtain ⟨a, b, c⟩ := r
 obtain ⟨a', b', c'⟩ := r'
 simp only [eqL, eqv, Bool.and_true, Prod.mk.injEq]
 rw [Bool.eq_iff_iff]
 simp [Int.natCast_inj]
def takeQ (Q : List QC) (w : Nat) (bs : List Bool) : Nat × Nat × Nat :=
  if findQ Q w (valB (bs.take 15)) ≠ zeroQ ∧ (findQ Q w (valB (bs.take 15))).2.1 ≤ bs.length then ((findQ Q w (valB (bs.take 15))).1, (findQ Q w (valB (bs.take 15))).2.1, 0)
  else if bs.length < 15 ∧ shortB Q bs.length (valB (bs.take 15)) = true then (0, 0, 2) else (0, 0, 13)
theorem findQ_len {Q : List QC} (h : QOk Q) (w x : Nat) : (findQ Q w x).2.1 ≤ 15 := by
 rw [findQ_eq h]
 cases hq : Q.find? (hitQ x) with
 | some c => exact (h.len c (List.mem_of_find?_eq_some hq)).2
 | none => exact Nat.zero_le _
theorem qtake_spec {B p q w m c a : Nat} {A : Option Addr} {l : List UInt8} {Q : List QC} {F : List Res} {h0 : Heap} (st : St B h0 h0 (rdG q A m c a :: tabR p Q w :: F)) (hQ : QOk Q) (hw : 1 ≤ w ∧ w ≤ 15) (hql : Q.length ≤ 1000)
  (hr : Rd h0 A (l.map byteV)) (hl : l.length = m) (hm : m ≤ 1099511627776) (ha : a ≤ 8 * m) :
  Ret Tryz.prog 207 [.pointer (some ⟨p, 0, none⟩), .pointer (some ⟨q, 0, none⟩)] h0
   fun v h' => v = retVal [.int .i64 ((takeQ Q w ((bitsB l).drop a)).1 : Nat), .int .i64 ((takeQ Q w ((bitsB l).drop a)).2.2 : Nat)] ∧ St B h0 h' (rdG q A m c (a + (takeQ Q w ((bitsB l).drop a)).2.1) :: tabR p Q w :: F) := by
 have hbl : ((bitsB l).drop a).length = 8 * m - a := by rw [List.length_drop, bitsB_length, hl]
 have hnum : numB (bitsB l) a 15 = valB (((bitsB l).drop a).take 15) := rfl
 obtain ⟨bs, hbs⟩ : ∃ bs, (bitsB l).drop a = bs := ⟨_, rfl⟩
 rw [hbs] at hbl hnum ⊢
 have hxlt : valB (bs.take 15) < 32768 := by
  have := valB_lt (bs.take 15)
  have h2 : 2 ^ (bs.take 15).length ≤ 2 ^ 15 := Nat.pow_le_pow_right (by omega) (by rw [List.length_take]; omega)
  omega
 have htq : takeQ Q w bs = if findQ Q w (valB (bs.take 15)) ≠ zeroQ ∧ (findQ Q w (valB (bs.take 15))).2.1 ≤ bs.length then ((findQ Q w (valB (bs.take 15))).1, (findQ Q w (valB (bs.take 15))).2.1, 0)
  else if bs.length < 15 ∧ shortB Q bs.length (valB (bs.take 15)) = true then (0, 0, 2) else (0, 0, 13) := rfl
 have hfl := findQ_len hQ w (valB (bs.take 15))
 obtain ⟨T, hT⟩ : ∃ T, takeQ Q w bs = T := ⟨_, rfl⟩
 rw [hT] at htq ⊢
 obtain ⟨x, hx⟩ : ∃ x, valB (bs.take 15) = x := ⟨_, rfl⟩
 rw [hx] at hnum hxlt htq hfl
 rw [hbl] at htq
 refine ret_of_X Tryz.func207 rfl rfl fun w0 hw0 => ?_
 simp only [argE, Nat.zero_add, Nat.reduceAdd]
 refine X_seq (X_reg (XA rfl rfl rfl (XA rfl rfl rfl (XR_nil (X_seq (X_seq (X_reg (XV rfl rfl rfl ?_))))))))
 refine XR_a (op_ptr_nil rfl rfl rfl) rfl rfl ?_
 refine XV rfl rfl rfl (XV rfl rfl rfl ?_)
 refine XR_a (op_ptr_nil rfl rfl rfl) rfl rfl ?_
 refine XR_a (op_pick_f rfl rfl) rfl rfl (XR_nil (X_else rfl (X_skip (X_seq (X_reg (XV rfl rfl rfl ?_))))))
 refine XR_wa (opl_call (rpeek_spec (k := 15) (st.cell 0 rfl rfl) (st.cell 0 rfl rfl) hr hl hm ha) rfl (by kernel_rfl)) rfl rfl rfl ?_
 rintro _ _ ⟨rfl, rfl⟩
 rw [show wd 32 15 = 15 from rfl, hnum]
 refine XR_a (op_convI (k' := .i64) rfl rfl (by simp only [inK]; omega)) rfl rfl ?_
 refine XV rfl rfl rfl ?_
 refine XR_wa (opl_call (rleft_spec (st.cell 0 rfl rfl) (st.cell 0 rfl rfl) hm ha) rfl (by kernel_rfl)) rfl rfl rfl ?_
 rintro _ _ ⟨rfl, rfl⟩
 refine XA rfl rfl rfl (XA rfl rfl rfl (XR_nil (X_seq (X_reg (XV rfl rfl rfl (XV rfl rfl rfl ?_))))))
 refine XR_wa (opl_call (qfind_spec (st.perm rot) hQ hw hxlt) rfl (by kernel_rfl)) rfl rfl rfl ?_
 rintro _ hp ⟨rfl, hxt⟩
 replace st := st.ext hxt
 obtain ⟨r, hre⟩ : ∃ r, findQ Q w x = r := ⟨_, rfl⟩
 rw [hre] at htq hfl ⊢
 refine XR_wa (opl_new rfl) rfl rfl rfl ?_
 rintro _ hp ⟨px, rfl, hnew⟩
 replace st := st.new hnew
 refine XR_wn (opl_store_whole (us := rC r) st 0 rfl rfl rfl rfl rfl (one_rC r) rfl) rfl rfl fun _ hp st => ?_
 simp only [List.set_cons_zero, List.set_cons_succ] at st
 refine XR_nil (X_seq (X_block (X_seq (X_reg ?_))))
 refine XR_a (op_ldA (vs := rC r) (st.cells 0 rfl) rfl rfl rfl rfl) rfl rfl ?_
 refine XR_a (op_build (ps := []) (cs := (rC zeroQ).toArray) rfl rfl) rfl rfl ?_
 refine XR_a (op_neqH rfl rfl (neq_flat (ks := [.i .i64, .i .i64, .b]) (by kernel_rfl) (by kernel_rfl) rfl rfl) (by kernel_rfl)) rfl rfl ?_
 refine XR_as (.bool (decide (r ≠ zeroQ))) (congrArg Value.bool (by rw [eqL_rC]; simp)) ?_
 refine XV rfl rfl rfl ?_
 refine XR_if 27 rfl (fun h => ?_) (fun h => ?_)
 ·first | refine XR_a (op_field0 rfl rfl) rfl rfl ?_ | refine XR_a (op_fieldn rfl rfl) rfl rfl ?_
  refine XR_a (op_ld (st.cell 0 (i := 1) rfl rfl) rfl rfl rfl) rfl rfl ?_
  refine XV rfl rfl rfl ?_
  refine XR_a (op_leq rfl rfl) rfl rfl ?_
  refine XR_a (op_pick_t rfl rfl) rfl rfl (XA rfl rfl rfl (XR_nil ?_))
  refine X_if rfl (fun h => ?_) (fun h => ?_)
  ·rw [if_pos ⟨by assumption, by omega⟩] at htq
   subst htq
   have hwd : wd 32 (r.2.1 : Int) = r.2.1 := by unfold wd; omega
   refine X_seq (X_reg (XV rfl rfl rfl ?_))
   first | refine XR_a (op_field0 rfl rfl) rfl rfl ?_ | refine XR_a (op_fieldn rfl rfl) rfl rfl ?_
   refine XR_a (op_ld (st.cell 0 (i := 1) rfl rfl) rfl rfl rfl) rfl rfl ?_
   refine XR_wa (opl_call (rskip_spec (k := (r.2.1 : Int)) (st.perm rot).here hm ha) rfl (by kernel_rfl)) rfl rfl rfl ?_
   rintro _ hp ⟨_, st2⟩
   rw [hwd, if_pos (by omega)] at st2
   replace st := ((st.perm rot).trans st2).perm rot
   refine XR_nil (X_seq (X_reg ?_))
   first | refine XR_a (op_field0 rfl rfl) rfl rfl ?_ | refine XR_a (op_fieldn rfl rfl) rfl rfl ?_
   refine XR_a (op_ld (st.cell 0 (i := 0) rfl rfl) rfl rfl rfl) rfl rfl ?_
   refine XA rfl rfl rfl (XA rfl rfl rfl (XR_nil ?_))
   refine X_ret (.cons (.tmp rfl) (.cons (.tmp rfl) .nil)) ?_
   exact ⟨rfl, st.tail⟩
  ·refine X_seq ?_
   have hnn : ¬ (r ≠ zeroQ ∧ r.2.1 ≤ 8 * m - a) := fun hh => by
    first
    | exact absurd hh.1 (by assumption)
    | (have := hh.2; omega)
   rw [if_neg hnn] at htq
   refine X_reg (XV rfl rfl rfl ?_)
   refine XR_a (op_lss rfl rfl) rfl rfl ?_
   refine XV rfl rfl rfl ?_
   refine XR_if 42 rfl (fun h => ?_) (fun h => ?_)
   ·refine XV rfl rfl rfl (XV rfl rfl rfl (XV rfl rfl rfl ?_))
    refine XR_wa (opl_call (qshort_spec st.tail.tail hQ hxlt (by omega) hql) rfl (by kernel_rfl)) rfl rfl rfl ?_
    rintro _ hp ⟨rfl, hxt2⟩
    replace st := st.ext hxt2
    refine XR_a (op_pick_t rfl rfl) rfl rfl (XA rfl rfl rfl (XR_nil ?_))
    refine X_cond rfl (fun h => ?_) (fun h => ?_)
    ·refine X_seq (X_reg (XA rfl rfl rfl (XA rfl rfl rfl (XR_nil ?_))))
     refine X_ret (.cons (.tmp rfl) (.cons (.tmp rfl) .nil)) ?_
     rename_i hs
     rw [if_pos ⟨by omega, by assumption⟩] at htq
     subst htq
     exact ⟨rfl, st.tail⟩
    ·refine X_skip (X_blk (X_seq (X_reg (XA rfl rfl rfl (XA rfl rfl rfl (XR_nil ?_))))))
     refine X_ret (.cons (.tmp rfl) (.cons (.tmp rfl) .nil)) ?_
     rw [if_neg (fun hh => by rw [h] at hh; exact absurd hh.2 (by simp))] at htq
     subst htq
     exact ⟨rfl, st.tail⟩
   ·refine XR_no rfl rfl (XR_no rfl rfl (XR_no rfl rfl (XR_no rfl rfl (XR_a (op_pick_f rfl rfl) rfl rfl (XA rfl rfl rfl (XR_nil (X_else rfl (X_skip (X_blk ?_)))))))))
    refine X_seq (X_reg (XA rfl rfl rfl (XA rfl rfl rfl (XR_nil ?_))))
    refine X_ret (.cons (.tmp rfl) (.cons (.tmp rfl) .nil)) ?_
    rw [if_neg (fun hh => by have := hh.1; omega)] at htq
    subst htq
    exact ⟨rfl, st.tail⟩
 ·refine XR_no rfl rfl (XR_no rfl rfl (XR_no rfl rfl (XR_no rfl rfl (XR_a (op_pick_f rfl rfl) rfl rfl (XA rfl rfl rfl (XR_nil (X_else rfl (X_seq ?_))))))))
  have hnn : ¬ (r ≠ zeroQ ∧ r.2.1 ≤ 8 * m - a) := fun hh => by
   first
   | exact absurd hh.1 (by assumption)
   | (have := hh.2; omega)
  rw [if_neg hnn] at htq
  refine X_reg (XV rfl rfl rfl ?_)
  refine XR_a (op_lss rfl rfl) rfl rfl ?_
  refine XV rfl rfl rfl ?_
  refine XR_if 42 rfl (fun h => ?_) (fun h => ?_)
  ·refine XV rfl rfl rfl (XV rfl rfl rfl (XV rfl rfl rfl ?_))
   refine XR_wa (opl_call (qshort_spec st.tail.tail hQ hxlt (by omega) hql) rfl (by kernel_rfl)) rfl rfl rfl ?_
   rintro _ hp ⟨rfl, hxt2⟩
   replace st := st.ext hxt2
   refine XR_a (op_pick_t rfl rfl) rfl rfl (XA rfl rfl rfl (XR_nil ?_))
   refine X_cond rfl (fun h => ?_) (fun h => ?_)
   ·refine X_seq (X_reg (XA rfl rfl rfl (XA rfl rfl rfl (XR_nil ?_))))
    refine X_ret (.cons (.tmp rfl) (.cons (.tmp rfl) .nil)) ?_
    rename_i hs
    rw [if_pos ⟨by omega, by assumption⟩] at htq
    subst htq
    exact ⟨rfl, st.tail⟩
   ·refine X_skip (X_blk (X_seq (X_reg (XA rfl rfl rfl (XA rfl rfl rfl (XR_nil ?_))))))
    refine X_ret (.cons (.tmp rfl) (.cons (.tmp rfl) .nil)) ?_
    rw [if_neg (fun hh => by rw [h] at hh; exact absurd hh.2 (by simp))] at htq
    subst htq
    exact ⟨rfl, st.tail⟩
  ·refine XR_no rfl rfl (XR_no rfl rfl (XR_no rfl rfl (XR_no rfl rfl (XR_a (op_pick_f rfl rfl) rfl rfl (XA rfl rfl rfl (XR_nil (X_else rfl (X_skip (X_blk ?_)))))))))
   refine X_seq (X_reg (XA rfl rfl rfl (XA rfl rfl rfl (XR_nil ?_))))
   refine X_ret (.cons (.tmp rfl) (.cons (.tmp rfl) .nil)) ?_
   rw [if_neg (fun hh => by have := hh.1; omega)] at htq
   subst htq
   exact ⟨rfl, st.tail⟩
end Go.Bn
end

section
set_option linter.unusedVariables false
set_option linter.unusedSimpArgs false
namespace Go.Bn
theorem zero_symQ {Q : List QC} (h : QOk Q) {c : QC} (hc : c ∈ Q) : symQ c ≠ zeroQ := by
 intro e
 have := congrArg (fun r : QR => r.2.1) e
 have h1 := (h.len c hc).1
 simp only [symQ, zeroQ] at this
 omega
theorem takeQ_S {Q : List QC} (h : QOk Q) (w : Nat) (bs : List Bool) : takeQ Q w bs = takeS Q bs := by
 unfold takeQ takeS
 rw [findQ_eq h]
 obtain ⟨x, hx⟩ : ∃ x, valB (bs.take 15) = x := ⟨_, rfl⟩
 have hmi : ∀ c, matchQ bs c = true ↔ c.2.2 ≤ bs.length ∧ hitQ x c = true := fun c => by rw [← hx]; exact matchQ_iff
 rw [hx]
 have hsh15 : 15 ≤ bs.length → shortB Q bs.length x = false := fun hl => shortB_false fun c hc => by
  cases hh : beginQ bs.length x c with
  | false => rfl
  | true => have := (beginQ_iff.1 hh).1; have := (h.len c hc).2; omega
 have htail : (if bs.length < 15 ∧ shortB Q bs.length x = true then ((0, 0, 2) : Nat × Nat × Nat) else (0, 0, 13)) = if shortB Q bs.length x = true then (0, 0, 2) else (0, 0, 13) := by
  rcases Nat.lt_or_ge bs.length 15 with hl | hl
  ·by_cases hs : shortB Q bs.length x = true
   ·rw [if_pos ⟨hl, hs⟩, if_pos hs]
   ·rw [if_neg (fun hh => hs hh.2), if_neg hs]
  ·rw [hsh15 hl, if_neg (fun hh => absurd hh.2 (by simp)), if_neg (by simp)]
 cases hq : Q.find? (hitQ x) with
 | some c =>
  have hc := List.mem_of_find?_eq_some hq
  have hcx := List.find?_some hq
  simp only
  by_cases hn : c.2.2 ≤ bs.length
  ·have hm : Q.find? (matchQ bs) = some c := find_some_of hc ((hmi c).2 ⟨hn, hcx⟩) fun d hd hh => hitQ_one h hd hc ((hmi d).1 hh).2 hcx
   rw [if_pos ⟨zero_symQ h hc, hn⟩, hm]; rfl
  ·have hm : Q.find? (matchQ bs) = none := find_none_of fun d hd => by
    cases hh : matchQ bs d with
    | false => rfl
    | true =>
     obtain ⟨h1, h2⟩ := (hmi d).1 hh
     have e := hitQ_one h hd hc h2 hcx
     rw [e] at h1; exact absurd h1 hn
   rw [if_neg (fun hh => hn hh.2), hm, htail]
 | none =>
  have hnone := List.find?_eq_none.1 hq
  have hm : Q.find? (matchQ bs) = none := find_none_of fun d hd => by
   cases hh : matchQ bs d with
   | false => rfl
   | true => exact absurd ((hmi d).1 hh).2 (hnone d hd)
  simp only
  rw [if_neg (fun hh => hh.1 rfl), hm, htail]
theorem takeQ_C {ls : List Nat} (hok : lensOK ls) (w : Nat) (bs : List Bool) : takeQ (qcodes ls) w bs = takeC ls bs := by rw [takeQ_S (qcodes_ok hok), takeC_S hok]
end Go.Bn
end

section
set_option linter.unusedVariables false
set_option linter.unusedSimpArgs false
set_option maxHeartbeats 4000000
set_option maxRecDepth 20000
namespace Go.Bn
open Go Proofs
theorem fwidth_spec (k : Int) (hp : Heap) : Ret Tryz.prog 98 [.int .i64 k] hp fun v hp' => v = .int .i64 (wid k : Nat) ∧ hp = hp' := by
 refine ret_of_X Tryz.func98 rfl rfl fun w0 hw0 => ?_
 simp only [argE, Nat.zero_add, Nat.reduceAdd]
 refine X_seq (X_reg (XA rfl rfl rfl (XR_nil (X_seq (X_reg (XV rfl rfl rfl ?_))))))
 refine XR_a (op_min2 rfl rfl) rfl rfl ?_
 refine XR_a (op_max2 rfl rfl) rfl rfl ?_
 refine XA rfl rfl rfl (XR_nil ?_)
 refine X_ret (.cons (.tmp rfl) .nil) ?_
 refine ⟨?_, rfl⟩
 rw [wid_int]; rfl
theorem fput_spec {B n : Nat} {k : Int} {v : Value} {l : List UInt8} {F : List Res} {h0 : Heap} (st : St B h0 h0 (row 5 1 v (l.map byteV) :: F)) (hn : n < 4294967296) (hl : l.length ≤ 1099511627776) :
  Ret Tryz.prog 60 [v, .int .u32 (n : Int), .int .i64 k] h0 fun v' h' => St B h0 h' (row 5 1 v' ((l ++ leB (wid k) n).map byteV) :: F) := by
 have hw := wid_le k
 refine ret_of_X Tryz.func60 rfl rfl fun w0 hw0 => ?_
 simp only [argE, Nat.zero_add, Nat.reduceAdd]
 refine X_seq (X_reg (XA rfl rfl rfl (XR_nil (X_seq (X_seq (X_reg (XV rfl rfl rfl ?_)))))))
 refine XR_wa (opl_call (fwidth_spec _ _) rfl (by kernel_rfl)) rfl rfl rfl ?_
 rintro _ _ ⟨rfl, rfl⟩
 refine XV rfl rfl rfl (XR_nil (X_block ?_))
 refine X_loop (fun s => wid k - s.2.1) (fun s => [(0, s.1), (1, .int .u32 (s.2.2 : Int)), (8, .int .i64 (wid k : Nat)), (9, .int .i64 (s.2.1 : Int))])
  (fun (s : Value × Nat × Nat) hp => St B h0 hp (row 5 1 s.1 ((l ++ leB s.2.1 n).map byteV) :: F) ∧ s.2.1 ≤ wid k ∧ s.2.2 = n / 256 ^ s.2.1)
  (v, 0, n) (.cons rfl (.cons rfl (.cons rfl (.cons rfl (.nil _))))) ⟨by simpa [leB] using st, by simp, by simp⟩ ?_
 clear st
 rintro ⟨v, i, m⟩ hp ⟨st, hi, hm⟩
 simp only at st hi hm ⊢
 have hmn : m ≤ n := by rw [hm]; exact Nat.div_le_self _ _
 refine X_seq (X_reg ?_)
 refine XR_a (op_lss rfl rfl) rfl rfl ?_
 refine XR_nil (X_seq ?_)
 refine X_if rfl (fun h => ?_) (fun h => ?_)
 ·refine X_skip (X_seq (X_block (X_seq (X_reg (XV rfl rfl rfl (XV rfl rfl rfl ?_))))))
  refine XR_a (op_convU rfl rfl rfl) rfl rfl ?_
  refine XR_as (byteV (UInt8.ofNat m)) (by simp [byteV, IntKind.bits]) ?_
  refine XR_wa (opl_var1 rfl rfl rfl) rfl rfl rfl ?_
  rintro _ hp ⟨A, rfl, hx, hrd⟩
  have st := st.ext hx
  refine XR_wa (opl_append st 0 rfl (hrd) (rfl) (by simp [Value.one, byteV]) (by simp [leB_length]; omega) rfl rfl rfl rfl rfl rfl rfl) rfl rfl rfl fun v hp st => ?_
  simp only [List.set_cons_zero, List.set_cons_succ] at st
  refine XA rfl rfl rfl (XR_nil (X_reg (XV rfl rfl rfl ?_)))
  first | refine XR_a (op_shrC 8 rfl rfl (by decide)) rfl rfl ?_ | refine XR_a (op_shrN 8 rfl rfl (by decide)) rfl rfl ?_
  refine XA rfl rfl rfl (XR_nil (X_blk (X_reg ?_)))
  first | refine XR_a (op_addN (n := 1) rfl rfl (by simp only [inK]; omega)) rfl rfl ?_ | refine XR_a (op_addI rfl rfl (by simp only [inK]; omega)) rfl rfl ?_ | refine XR_a (op_add rfl rfl) rfl rfl ?_
  refine XV rfl rfl rfl (XR_nil ?_)
  rw [← List.map_singleton (f := byteV), ← List.map_append, List.append_assoc, hm, ← leB_snoc] at st
  refine X_again (v, i + 1, m / 2 ^ 8) (.cons rfl (.cons rfl (.cons rfl (.cons rfl (.nil _))))) ⟨st, ?_, ?_⟩ ?_
  ·simp only; omega
  ·simp only; rw [hm, Nat.div_div_eq_div_mul, show (2 : Nat) ^ 8 = 256 by rfl, Nat.pow_succ]
  ·simp only; omega
 ·refine X_exit rfl (X_seq (X_reg (XV rfl rfl rfl (XA rfl rfl rfl (XR_nil ?_)))))
  refine X_ret (.cons (.tmp rfl) .nil) ?_
  have : i = wid k := by omega
  subst this
  exact st
theorem fget_spec {at_ k : Int} {A : Option Addr} {n c : Nat} {l : List UInt8} {h0 : Heap} (hr : Rd h0 A (l.map byteV)) (hl : l.length = n) (hn : n ≤ 140737488355328) (ha : inK .i64 at_) :
  Ret Tryz.prog 125 [.slice A n c, .int .i64 at_, .int .i64 k] h0 fun v h' => v = retVal [.int .u32 (((getF l at_ k).getD 0 : Nat) : Int), .bool (getF l at_ k).isSome] ∧ h0 = h' := by
 have hw := wid_le k
 have hw1 := wid_pos k
 simp only [inK] at ha
 refine ret_of_X Tryz.func125 rfl rfl fun w0 hw0 => ?_
 simp only [argE, Nat.zero_add, Nat.reduceAdd]
 refine X_seq (X_reg (XA rfl rfl rfl (XA rfl rfl rfl (XR_nil (X_seq (X_reg (XV rfl rfl rfl ?_)))))))
 refine XR_wa (opl_call (fwidth_spec _ _) rfl (by kernel_rfl)) rfl rfl rfl ?_
 rintro _ _ ⟨rfl, rfl⟩
 refine XA rfl rfl rfl (XR_nil (X_seq (X_seq (X_reg (XV rfl rfl rfl ?_)))))
 refine XR_a (op_lss rfl rfl) rfl rfl ?_
 refine XV rfl rfl rfl ?_
 refine XR_if 15 rfl (fun h => ?_) (fun h => ?_)
 ·refine XR_no rfl rfl (XR_no rfl rfl (XR_no rfl rfl (XR_no rfl rfl (XR_no rfl rfl (XR_no rfl rfl (XR_a (op_pick_t rfl rfl) rfl rfl (XR_nil (X_then rfl (X_seq ?_)))))))))
  refine X_reg (XA rfl rfl rfl (XA rfl rfl rfl (XR_nil ?_)))
  refine X_ret (.cons (.tmp rfl) (.cons (.tmp rfl) .nil)) ?_
  have : getF l at_ k = none := by unfold getF; rw [if_neg (by omega)]
  rw [this]; exact ⟨rfl, rfl⟩
 ·refine XV rfl rfl rfl (XV rfl rfl rfl ?_)
  refine XR_a (op_len rfl rfl rfl) rfl rfl ?_
  refine XV rfl rfl rfl ?_
  refine XR_a (op_subI rfl rfl (by simp only [inK]; omega)) rfl rfl ?_
  refine XR_a (op_gtr rfl rfl) rfl rfl ?_
  refine XR_a (op_pick_f rfl rfl) rfl rfl (XR_nil ?_)
  refine X_if rfl (fun h => ?_) (fun h => ?_)
  ·refine X_seq (X_reg (XA rfl rfl rfl (XA rfl rfl rfl (XR_nil ?_))))
   refine X_ret (.cons (.tmp rfl) (.cons (.tmp rfl) .nil)) ?_
   have : getF l at_ k = none := by unfold getF; rw [if_neg (by omega)]
   rw [this]; exact ⟨rfl, rfl⟩
  ·obtain ⟨a, rfl⟩ : ∃ a : Nat, at_ = (a : Int) := ⟨at_.toNat, by omega⟩
   have hg : getF l (a : Int) k = some (leV ((l.drop a).take (wid k))) := by unfold getF; rw [if_pos (by omega)]; simp
   rw [hg]
   refine X_skip (X_seq (X_reg (XA rfl rfl rfl (XR_nil (X_seq (X_seq (X_reg (XV rfl rfl rfl ?_))))))))
   refine XR_a (op_subI rfl rfl (by simp only [inK]; omega)) rfl rfl ?_
   refine XA rfl rfl rfl (XR_nil (X_block ?_))
   obtain ⟨b, o, rfl, hc⟩ : ∃ b o, A = some ⟨b, o, none⟩ ∧ ∀ i u, (l.map byteV)[i]? = some u → cellH h0 ⟨b, o + i, none⟩ = some u := by
    rcases hr with h | h
    ·exfalso
     have : l = [] := by simpa using h
     subst this; simp at hl; omega
    ·exact h
   refine X_loop (fun s => s) (fun s => [(0, .slice (some ⟨b, o, none⟩) n c), (1, .int .i64 (a : Int)), (9, .int .u32 (leV ((l.drop (a + s)).take (wid k - s)) : Nat)), (10, .int .i64 ((s : Int) - 1))])
    (fun (s : Nat) hp => h0 = hp ∧ s ≤ wid k)
    (wid k) (.cons rfl (.cons rfl (.cons (by simp [leV]; rfl) (.cons rfl (.nil _))))) ⟨rfl, Nat.le_refl _⟩ ?_
   rintro i hp ⟨rfl, hi⟩
   refine X_seq (X_seq (X_reg (XV rfl rfl rfl ?_)))
   refine XR_a (op_geq rfl rfl) rfl rfl ?_
   refine XR_nil ?_
   refine X_if rfl (fun h => ?_) (fun h => ?_)
   ·obtain ⟨i, rfl⟩ : ∃ j, i = j + 1 := ⟨i - 1, by omega⟩
    have hlt : a + i < l.length := by omega
    have hstep : (l.drop (a + i)).take (wid k - i) = l[a + i] :: (l.drop (a + (i + 1))).take (wid k - (i + 1)) := by
     rw [List.drop_eq_getElem_cons hlt, show wid k - i = (wid k - (i + 1)) + 1 by omega, List.take_succ_cons]; rfl
    have hcell := hc (a + i) (byteV l[a + i]) (by simp [hlt])
    have hv := leV_lt ((l.drop (a + (i + 1))).take (wid k - (i + 1)))
    have hv2 : leV ((l.drop (a + (i + 1))).take (wid k - (i + 1))) < 16777216 := by
     refine Nat.lt_of_lt_of_le hv (Nat.le_trans (Nat.pow_le_pow_right (by omega) (?_ : _ ≤ 3)) (by decide))
     rw [List.length_take]; omega
    have hb := (l[a + i]).toNat_lt
    rw [show (((i + 1 : Nat) : Int) - 1) = (i : Int) by omega]
    refine X_skip (X_seq (X_block (X_reg (XV rfl rfl rfl ?_))))
    first | refine XR_a (op_shlC 8 rfl rfl (by decide) (by simp only [inK]; omega)) rfl rfl ?_ | refine XR_a (op_shlI 8 rfl rfl (by decide) (by simp only [inK]; omega)) rfl rfl ?_ | refine XR_a (op_shlN 8 rfl rfl (by decide)) rfl rfl ?_
    refine XV rfl rfl rfl (XV rfl rfl rfl (XV rfl rfl rfl ?_))
    first | refine XR_a (op_addN rfl rfl (by simp only [inK]; omega)) rfl rfl ?_ | refine XR_a (op_addI rfl rfl (by simp only [inK]; omega)) rfl rfl ?_ | refine XR_a (op_add rfl rfl) rfl rfl ?_
    refine XR_a (op_index1 (i := a + i) rfl rfl rfl (by omega)) rfl rfl ?_
    refine XR_a (op_ld (hcell) rfl rfl rfl) rfl rfl ?_
    refine XR_a (op_convI rfl rfl (by simp only [inK]; omega)) rfl rfl ?_
    refine XR_a (op_orN rfl rfl rfl (by simp only [IntKind.bits]; omega) (by simp only [IntKind.bits]; omega)) rfl rfl ?_
    rw [show leV ((l.drop (a + (i + 1))).take (wid k - (i + 1))) * 2 ^ 8 ||| l[a + i].toNat = leV ((l.drop (a + i)).take (wid k - i)) by
     rw [hstep, leV, Nat.mul_comm, ← Nat.two_pow_add_eq_or_of_lt hb]; omega]
    refine XA rfl rfl rfl (XR_nil (X_blk (X_reg (XV rfl rfl rfl ?_))))
    refine XR_a (op_subI rfl rfl (by simp only [inK]; omega)) rfl rfl ?_
    refine XA rfl rfl rfl (XR_nil ?_)
    exact X_again i (.cons rfl (.cons rfl (.cons rfl (.cons rfl (.nil _))))) ⟨rfl, by omega⟩ (by omega)
   ·refine X_exit rfl (X_seq (X_reg (XV rfl rfl rfl (XA rfl rfl rfl (XA rfl rfl rfl (XR_nil ?_))))))
    refine X_ret (.cons (.tmp rfl) (.cons (.tmp rfl) .nil)) ?_
    have : i = 0 := by omega
    subst this
    exact ⟨rfl, rfl⟩
end Go.Bn
end
