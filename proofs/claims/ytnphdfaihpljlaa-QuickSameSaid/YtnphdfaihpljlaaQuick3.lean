/- The contract of quick's New. -/
import Derived.Test.YtnphdfaihpljlaaQuick2
set_option linter.unusedVariables false
set_option linter.unusedSimpArgs false
set_option maxHeartbeats 4000000
set_option maxRecDepth 20000
namespace Go.Bn
open Go Proofs

def bigR (f : Nat × Value → Res) : List (Nat × Value) → Res
  | [] => emp
  | x :: l => starR (f x) (bigR f l)
def deepTo (Q : List QC) (w m : Nat) : List Nat := (List.range m).filter fun i => (rowQ Q w i).2.2
theorem deepTo_succ (Q : List QC) (w m : Nat) : deepTo Q w (m + 1) = deepTo Q w m ++ if (rowQ Q w m).2.2 = true then [m] else [] := by
  unfold deepTo
  rw [List.range_succ, List.filter_append]
  congr 1
  simp only [List.filter_cons, List.filter_nil]
def sizeTo (Q : List QC) (w : Nat) : Nat → Nat
  | 0 => 2 ^ w
  | m + 1 => sizeTo Q w m + if (rowQ Q w m).2.2 = true then 2 ^ ((rowQ Q w m).2.1 - w) else 0
theorem rowQ_deep {Q : List QC} {w m : Nat} (h : (rowQ Q w m).2.2 = true) : rowQ Q w m = (0, longest Q w m, true) ∧ 0 < longest Q w m := by
  unfold rowQ at h ⊢
  cases hq : Q.find? (shortQ w m) with
  | some c => rw [hq] at h; simp [symQ] at h
  | none =>
    rw [hq] at h
    have h0 : 0 < longest Q w m := by simpa using h
    exact ⟨by simp only; rw [decide_eq_true h0], h0⟩
theorem rowQ_len {Q : List QC} (h : QOk Q) (w m : Nat) : (rowQ Q w m).2.1 ≤ 15 := by
  unfold rowQ
  cases hq : Q.find? (shortQ w m) with
  | some c => exact (h.len c (List.mem_of_find?_eq_some hq)).2
  | none => exact longest_le h w m
theorem sizeTo_le {Q : List QC} (h : QOk Q) {w : Nat} (hw : w ≤ 15) : ∀ m, sizeTo Q w m ≤ 32768 + m * 32768
  | 0 => by
    have := Nat.pow_le_pow_right (n := 2) (by omega) hw
    unfold sizeTo; omega
  | m + 1 => by
    have ih := sizeTo_le h hw m
    have hl := rowQ_len h w m
    have : 2 ^ ((rowQ Q w m).2.1 - w) ≤ 32768 := Nat.pow_le_pow_right (n := 2) (by omega) (show (rowQ Q w m).2.1 - w ≤ 15 by omega)
    rw [sizeTo, Nat.succ_mul]
    generalize 2 ^ ((rowQ Q w m).2.1 - w) = y at this ⊢
    split
    · exact Nat.le_trans (Nat.add_le_add ih this) (by rw [Nat.add_assoc]; exact Nat.le_refl _)
    · exact Nat.le_trans ih (by rw [← Nat.add_assoc]; exact Nat.le_add_right _ _)
theorem sizeTo_succ (Q : List QC) (w m : Nat) : sizeTo Q w (m + 1) = sizeTo Q w m + if (rowQ Q w m).2.2 = true then 2 ^ ((rowQ Q w m).2.1 - w) else 0 := rfl
theorem sizeTo_zero (Q : List QC) (w : Nat) : sizeTo Q w 0 = 2 ^ w := rfl
attribute [irreducible] sizeTo
def moreR (Q : List QC) (w : Nat) (x : Nat × Value) : Res := row 58 3 x.2 (cellsR (moreQ Q w x.1) (2 ^ (longest Q w x.1 - w)))
def keysOf (D : List (Nat × Value)) : List (Int × Value) := D.reverse.map fun x => ((x.1 : Int), x.2)
@[reducible] def tabG (p : Nat) (Q : List QC) (w : Nat) (vr : Value) (pm : Nat) (vc : Value) (D : List (Nat × Value)) : Res :=
  starR (pt p 109 (tabC w vr pm vc (sizeTo Q w (2 ^ w)))) (starR (row 58 3 vr (cellsR (rowQ Q w) (2 ^ w))) (starR (mapR pm (keysOf D)) (starR (row 111 3 vc (Q.flatMap cC)) (bigR (moreR Q w) D))))
/-- A table. -/
def tabR (p : Nat) (Q : List QC) (w : Nat) : Res := exR fun (s : Value × Nat × Value × List (Nat × Value)) => andR (s.2.2.2.map (·.1) = (deepTo Q w (2 ^ w)).reverse) (tabG p Q w s.1 s.2.1 s.2.2.1 s.2.2.2)
theorem rot {a b : Res} {l : List Res} : (a :: b :: l).Perm (b :: a :: l) := List.Perm.swap _ _ _
theorem perm5 {a b c d e : Res} {F : List Res} : (d :: e :: c :: b :: a :: F).Perm (a :: b :: c :: d :: e :: F) := by
  have h1 : ([d, e, c, b] ++ a :: F).Perm (a :: ([d, e, c, b] ++ F)) := List.perm_middle
  have h2 : ([d, e, c] ++ b :: F).Perm (b :: ([d, e, c] ++ F)) := List.perm_middle
  have h3 : ([d, e] ++ c :: F).Perm (c :: ([d, e] ++ F)) := List.perm_middle
  exact h1.trans (.cons _ (h2.trans (.cons _ h3)))
theorem St.tab {B p w : Nat} {Q : List QC} {F : List Res} {h0 hp : Heap} (st : St B h0 hp (tabR p Q w :: F)) : ∃ vr pm vc D, D.map (·.1) = (deepTo Q w (2 ^ w)).reverse ∧
    St B h0 hp (pt p 109 (tabC w vr pm vc (sizeTo Q w (2 ^ w))) :: Bn.row 58 3 vr (cellsR (rowQ Q w) (2 ^ w)) :: mapR pm (keysOf D) :: Bn.row 111 3 vc (Q.flatMap cC) :: bigR (moreR Q w) D :: F) := by
  obtain ⟨⟨vr, pm, vc, D⟩, s1⟩ := St.ex.1 st
  obtain ⟨hd, s2⟩ := St.and.1 s1
  refine ⟨vr, pm, vc, D, hd, ?_⟩
  have s3 := (St.star.1 s2).perm rot
  have s4 := (St.star.1 s3).perm rot
  have s5 := (St.star.1 s4).perm rot
  have s6 := St.star.1 s5
  exact s6.perm perm5
theorem St.untab {B p w : Nat} {Q : List QC} {h0 hp : Heap} {vr vc : Value} {pm : Nat} {D : List (Nat × Value)} (hd : D.map (·.1) = (deepTo Q w (2 ^ w)).reverse)
    (st : St B h0 hp [pt p 109 (tabC w vr pm vc (sizeTo Q w (2 ^ w))), Bn.row 58 3 vr (cellsR (rowQ Q w) (2 ^ w)), mapR pm (keysOf D), Bn.row 111 3 vc (Q.flatMap cC), bigR (moreR Q w) D]) : St B h0 hp [tabR p Q w] := by
  have s1 := st.re 5 [3, 4, 2, 1, 0] (by decide)
  simp only [List.map_cons, List.map_nil, getR] at s1
  have s2 := (St.star.2 s1).perm rot
  have s3 := (St.star.2 s2).perm rot
  have s4 := (St.star.2 s3).perm rot
  exact St.ex.2 ⟨(vr, pm, vc, D), St.and.2 ⟨hd, St.star.2 s4⟩⟩
def widthN (n : Int) : Nat := (cutI n 1 15).toNat
theorem widthN_int (n : Int) : cutI n 1 15 = (widthN n : Nat) ∧ 1 ≤ widthN n ∧ widthN n ≤ 15 := by unfold widthN cutI; omega

theorem qnew_spec {n c : Nat} {A : Option Addr} {li : List Int} (width : Int) {h0 : Heap} (hr : Rd h0 A (li.map iV)) (hl : li.length = n) (hn : n ≤ 17592186044416) :
    Ret Try.prog 36 [.slice A n c, .int .i64 width] h0 fun v h' =>
      ∃ x, v = retVal [x, .int .i64 (errC li)] ∧ Ext h0 h' ∧ (rightC li → ∃ p, x = .pointer (some ⟨p, 0, none⟩) ∧ St h0.size h0 h' [tabR p (qcodes (li.map Int.toNat)) (widthN width)]) ∧ (¬ rightC li → x = .pointer none) := by
  refine ret_of_X Try.func36 rfl rfl fun w0 hw0 => ?_
  simp only [argE, Nat.zero_add, Nat.reduceAdd]
  refine X_seq ?_
  refine X_reg ?_
  refine XR_a (op_assign rfl) rfl rfl ?_
  refine XR_a (op_assign rfl) rfl rfl ?_
  refine XR_nil ?_
  refine X_seq ?_
  refine X_reg ?_
  refine XR_a (op_move rfl) rfl rfl ?_
  refine XR_wa (opl_call (codes_spec hr hl hn) rfl (by kernel_rfl)) rfl rfl rfl ?_
  rintro _ hp ⟨vc, rfl, hx, hy, hz⟩
  refine XR_a (op_move rfl) rfl rfl ?_
  refine XR_a (op_extract rfl rfl) rfl rfl ?_
  refine XR_a (op_extract rfl rfl) rfl rfl ?_
  refine XR_a (op_assign rfl) rfl rfl ?_
  refine XR_a (op_assign rfl) rfl rfl ?_
  refine XR_nil ?_
  refine X_seq ?_
  refine X_seq ?_
  refine X_reg ?_
  refine XR_a (op_move rfl) rfl rfl ?_
  refine XR_a (op_neq rfl rfl) rfl rfl ?_
  refine XR_nil ?_
  refine X_if rfl (fun h => ?_) (fun h => ?_)
  · refine X_seq ?_
    refine X_reg ?_
    refine XR_a (op_move rfl) rfl rfl ?_
    refine XR_a (op_assign rfl) rfl rfl ?_
    refine XR_a (op_assign rfl) rfl rfl ?_
    refine XR_nil ?_
    refine X_ret (.cons (.tmp rfl) (.cons (.tmp rfl) .nil)) ?_
    have hR : ¬ rightC li := fun hh => h (errC_zero.2 hh)
    exact ⟨_, rfl, hx, fun hh => absurd hh hR, fun _ => rfl⟩
  · have hR : rightC li := errC_zero.1 (Decidable.not_not.1 h)
    have st := hy hR
    have hQ := qcodes_ok hR.ok
    have hql : (qcodes (li.map Int.toNat)).length ≤ 320 := Nat.le_trans (codesTo_len _ _) hR.ok.2.1
    obtain ⟨Q, hQe⟩ : ∃ Q, qcodes (li.map Int.toNat) = Q := ⟨_, rfl⟩
    rw [hQe] at hQ hql st ⊢
    obtain ⟨hwi, hw⟩ := widthN_int width
    obtain ⟨w, hwe⟩ : ∃ w, widthN width = w := ⟨_, rfl⟩
    rw [hwe] at hwi hw ⊢
    have hpw : 2 ^ w ≤ 32768 := Nat.pow_le_pow_right (n := 2) (by omega) hw.2
    have hpw0 : 0 < 2 ^ w := Nat.pow_pos (by omega)
    obtain ⟨Ac, nc, cc, rfl, hlenc, _, _, _⟩ := st.row 0 rfl
    rw [flat_length _ 3 (fun _ => rfl)] at hlenc
    refine X_skip ?_
    refine X_seq ?_
    refine X_reg ?_
    refine XR_a (op_move rfl) rfl rfl ?_
    refine XR_wa (opl_call (cut_spec width 1 15 _) rfl (by kernel_rfl)) rfl rfl rfl ?_
    rintro _ _ ⟨rfl, rfl⟩
    rw [hwi]
    refine XR_a (op_assign rfl) rfl rfl ?_
    refine XR_nil ?_
    refine X_seq ?_
    refine X_reg ?_
    refine XR_a (op_move rfl) rfl rfl ?_
    refine XR_a (op_move rfl) rfl rfl ?_
    refine XR_a (op_shlC (m := 1) w rfl rfl (by simp only [IntKind.bits]; omega) (by simp only [inK]; omega)) rfl rfl ?_
    refine XR_as (.int .i64 (2 ^ w : Nat)) (by rw [Nat.one_mul]) ?_
    refine XR_wa (opl_mkS (n := 2 ^ w) (by omega) rfl rfl rfl rfl rfl) rfl rfl rfl ?_
    rintro vr hp hnew
    replace st := st.new hnew
    replace st := (id st : St h0.size h0 hp (row 58 3 vr (List.replicate (2 ^ w) [Value.int .i64 0, .int .i64 0, .bool false]).flatten :: _))
    rw [cellsR_zero] at st
    obtain ⟨gr, nr, cr, rfl, hlenr, _, _, _⟩ := st.row0 0 rfl (by rw [cellsR_len]; omega)
    rw [cellsR_len] at hlenr
    obtain rfl : nr = 2 ^ w := by omega
    refine XR_wa opl_mkMap rfl rfl rfl ?_
    rintro _ hp ⟨pm, rfl, hnew⟩
    replace st := st.new hnew
    refine XR_a (op_move rfl) rfl rfl ?_
    refine XR_a (op_build (ps := [(0, nV w), (1, .slice (some ⟨gr, 0, none⟩) (2 ^ w) cr), (2, .map (some pm)), (3, .slice Ac nc cc)]) (cs := (tabC w (.slice (some ⟨gr, 0, none⟩) (2 ^ w) cr) pm (.slice Ac nc cc) 0).toArray) rfl rfl) rfl rfl ?_
    refine XR_wa (opl_bx rfl rfl) rfl rfl rfl ?_
    rintro _ hp ⟨p, rfl, hnew⟩
    have st := st.new hnew
    refine XR_a (op_assign rfl) rfl rfl ?_
    refine XR_nil ?_
    refine X_seq ?_
    refine X_reg ?_
    refine XR_a (op_move rfl) rfl rfl ?_
    refine XR_a (op_move rfl) rfl rfl ?_
    refine XR_a (op_nilCheck rfl) rfl rfl ?_
    first | refine XR_a (op_field0 rfl rfl) rfl rfl ?_ | refine XR_a (op_fieldn rfl rfl) rfl rfl ?_
    refine XR_a (op_ld (st.cell 0 (i := 1) rfl rfl) rfl rfl rfl) rfl rfl ?_
    refine XR_a (op_len rfl rfl rfl) rfl rfl ?_
    refine XR_a (op_nilCheck rfl) rfl rfl ?_
    first | refine XR_a (op_field0 rfl rfl) rfl rfl ?_ | refine XR_a (op_fieldn rfl rfl) rfl rfl ?_
    refine XR_wn (opl_store_pt (i := 4) (v := nV (2 ^ w)) st 0 rfl rfl rfl rfl rfl rfl) rfl rfl fun _ hp st => ?_
    simp only [List.set_cons_zero, List.set_cons_succ] at st
    refine XR_nil ?_
    refine X_seq ?_
    refine X_seq ?_
    refine X_reg ?_
    refine XR_a (op_move rfl) rfl rfl ?_
    refine XR_a (op_len rfl rfl rfl) rfl rfl ?_
    refine XR_a (op_move rfl) rfl rfl ?_
    refine XR_nil ?_
    refine X_block ?_
    replace st := st.re 4 [0, 2, 1, 3] (by decide)
    simp only [List.map_cons, List.map_nil, getR] at st
    refine X_loop (fun i => nc - i) (fun i => [(8, nV w), (9, .pointer (some ⟨p, 0, none⟩)), (41, .slice Ac nc cc), (42, .int .i64 (nc : Nat)), (43, .int .i64 (i : Nat))])
      (fun (i : Nat) hp => St h0.size h0 hp [pt p 109 (tabC w (.slice (some ⟨gr, 0, none⟩) (2 ^ w) cr) pm (.slice Ac nc cc) (2 ^ w)), row 58 3 (.slice (some ⟨gr, 0, none⟩) (2 ^ w) cr) (cellsR (rowQ (Q.take i) w) (2 ^ w)), mapR pm [], row 111 3 (.slice Ac nc cc) (Q.flatMap cC)] ∧ i ≤ nc)
      0 (.cons rfl (.cons rfl (.cons rfl (.cons rfl (.cons rfl (.nil _)))))) ⟨st, by omega⟩ ?_
    clear st hnew hy hx
    rintro i hp ⟨st, hi⟩
    refine X_seq ?_
    refine X_reg ?_
    refine XR_a (op_lss rfl rfl) rfl rfl ?_
    refine XR_nil ?_
    refine X_seq ?_
    refine X_if rfl (fun h => ?_) (fun h => ?_)
    · have hilt : i < Q.length := by omega
      obtain ⟨gc, oc, rfl, hcc⟩ := Rd.flat cC 3 (st.rdS 3 rfl).2 (fun _ => rfl) (by omega) (by omega)
      have hQc := hQ.len Q[i] (List.getElem_mem hilt)
      have hQb := hQ.bits Q[i] (List.getElem_mem hilt)
      have htk := List.take_succ_eq_append_getElem hilt
      have hQt : QOk (Q.take i ++ [Q[i]]) := by rw [← htk]; exact hQ.sub fun c hc => List.mem_of_mem_take hc
      have hQt0 : QOk (Q.take i) := hQ.sub fun c hc => List.mem_of_mem_take hc
      have hcell := hcc i hilt
      obtain ⟨c, hce⟩ : ∃ c, Q[i] = c := ⟨_, rfl⟩
      rw [hce] at hQc hQb htk hQt hcell
      have hb15 : c.2.1 < 32768 := Nat.lt_of_lt_of_le hQb (Nat.pow_le_pow_right (n := 2) (by omega) hQc.2)
      refine X_skip ?_
      refine X_seq ?_
      refine X_block ?_
      refine X_seq ?_
      refine X_reg ?_
      refine XR_a (op_index (i := i) rfl rfl rfl (by omega)) rfl rfl ?_
      refine XR_a (op_ldA (vs := cC c) (fun j u hu => hcell j u hu) rfl rfl rfl rfl) rfl rfl ?_
      refine XR_wa (opl_new rfl) rfl rfl rfl ?_
      rintro _ hp ⟨px, rfl, hnew⟩
      replace st := st.new hnew
      refine XR_wn (opl_store_whole st 0 rfl rfl rfl rfl rfl (one_cC c) rfl) rfl rfl fun _ hp st => ?_
      simp only [List.set_cons_zero, List.set_cons_succ] at st
      refine XR_nil ?_
      refine X_seq ?_
      refine X_seq ?_
      refine X_reg ?_
      first | refine XR_a (op_field0 rfl rfl) rfl rfl ?_ | refine XR_a (op_fieldn rfl rfl) rfl rfl ?_
      refine XR_a (op_ld (st.cell 0 (i := 2) rfl rfl) rfl rfl rfl) rfl rfl ?_
      refine XR_a (op_move rfl) rfl rfl ?_
      refine XR_a (op_leq rfl rfl) rfl rfl ?_
      refine XR_nil ?_
      refine X_if rfl (fun h => ?_) (fun h => ?_)
      · refine X_seq ?_
        refine X_draw byKind (by kernel_rfl) (by kernel_rfl) ?_
        refine XR_a (op_move rfl) rfl rfl ?_
        refine XR_a (op_nilCheck rfl) rfl rfl ?_
        first | refine XR_a (op_field0 rfl rfl) rfl rfl ?_ | refine XR_a (op_fieldn rfl rfl) rfl rfl ?_
        refine XR_a (op_ld (st.cell 1 (i := 1) rfl rfl) rfl rfl rfl) rfl rfl ?_
        refine XR_a (op_ldA (vs := cC c) (st.cells 0 rfl) rfl rfl rfl rfl) rfl rfl ?_
        refine XR_wa (opl_call (fill_spec (c := c) (past := 0) ((st.re 5 [2, 0, 1, 3, 4] (by decide)).here) hpw hQc.2 (by omega) hQb) rfl (by kernel_rfl)) rfl rfl rfl ?_
        rintro _ hp ⟨_, st2⟩
        replace st := ((st.re 5 [2, 0, 1, 3, 4] (by decide)).trans st2).re 5 [1, 2, 0, 3, 4] (by decide)
        simp only [List.map_cons, List.map_nil, getR] at st
        have hstep : cellsR (fun j => if j % 2 ^ (c.2.2 - 0) = c.2.1 / 2 ^ 0 then symQ c else rowQ (Q.take i) w j) (2 ^ w) = cellsR (rowQ (Q.take (i + 1)) w) (2 ^ w) := cellsR_congr fun j _ => by
          rw [htk, rowQ_short hQt (by omega), Nat.sub_zero, Nat.pow_zero, Nat.div_one]
        rw [hstep] at st
        refine XR_nil ?_
        refine X_exit rfl ?_
        refine X_reg ?_
        first | refine XR_a (op_addN (n := 1) rfl rfl (by simp only [inK]; omega)) rfl rfl ?_ | refine XR_a (op_addI rfl rfl (by simp only [inK]; omega)) rfl rfl ?_ | refine XR_a (op_add rfl rfl) rfl rfl ?_
        refine XR_a (op_move rfl) rfl rfl ?_
        refine XR_nil ?_
        exact X_again (i + 1) (.cons rfl (.cons rfl (.cons rfl (.cons rfl (.cons rfl (.nil _)))))) ⟨st.tail, by omega⟩ (by omega)
      · obtain ⟨m, hme⟩ : ∃ m, c.2.1 % 2 ^ w = m := ⟨_, rfl⟩
        have hm : m < 2 ^ w := by rw [← hme]; exact Nat.mod_lt _ hpw0
        have hrl := rowQ_len hQt0 w m
        have hst10 : ∀ {hp : Heap} (j : Nat) {v : Value}, (rC (rowQ (Q.take i) w m))[j]? = some v → j < 3 → Rd hp (some ⟨gr, 0, none⟩) (cellsR (rowQ (Q.take i) w) (2 ^ w)) → cellH hp ⟨gr, 0 + m * 3 + j, none⟩ = some v := by
          intro hp j v hv hj hrd
          obtain ⟨g', o', e', hc'⟩ := hrd.at_ (by rw [cellsR_len]; omega)
          cases e'
          have := hc' (m * 3 + j) v (by rw [cellsR_get _ hm hj]; exact hv)
          rwa [← Nat.add_assoc] at this
        refine X_skip ?_
        refine X_seq ?_
        refine X_draw byKind (by kernel_rfl) (by kernel_rfl) ?_
        first | refine XR_a (op_field0 rfl rfl) rfl rfl ?_ | refine XR_a (op_fieldn rfl rfl) rfl rfl ?_
        refine XR_a (op_ld (st.cell 0 (i := 1) rfl rfl) rfl rfl rfl) rfl rfl ?_
        refine XR_a (op_move rfl) rfl rfl ?_
        refine XR_a (op_nilCheck rfl) rfl rfl ?_
        first | refine XR_a (op_field0 rfl rfl) rfl rfl ?_ | refine XR_a (op_fieldn rfl rfl) rfl rfl ?_
        refine XR_a (op_ld (st.cell 1 (i := 1) rfl rfl) rfl rfl rfl) rfl rfl ?_
        refine XR_a (op_len rfl rfl rfl) rfl rfl ?_
        refine XR_a (op_subN (m := 2 ^ w) (n := 1) rfl rfl (by omega) (by simp only [inK]; omega)) rfl rfl ?_
        refine XR_a (op_andS (m := c.2.1) (n := 2 ^ w - 1) rfl rfl (by simp only [inK]; omega) (by simp only [inK]; omega)) rfl rfl ?_
        refine XR_as (.int .i64 (m : Nat)) (by rw [and_low, hme]) ?_
        refine XR_a (op_assign rfl) rfl rfl ?_
        refine XR_nil ?_
        refine X_draw byKind (by kernel_rfl) (by kernel_rfl) ?_
        refine XR_a (op_move rfl) rfl rfl ?_
        refine XR_a (op_nilCheck rfl) rfl rfl ?_
        first | refine XR_a (op_field0 rfl rfl) rfl rfl ?_ | refine XR_a (op_fieldn rfl rfl) rfl rfl ?_
        refine XR_a (op_ld (st.cell 1 (i := 1) rfl rfl) rfl rfl rfl) rfl rfl ?_
        refine XR_a (op_move rfl) rfl rfl ?_
        refine XR_a (op_move rfl) rfl rfl ?_
        refine XR_a (op_nilCheck rfl) rfl rfl ?_
        first | refine XR_a (op_field0 rfl rfl) rfl rfl ?_ | refine XR_a (op_fieldn rfl rfl) rfl rfl ?_
        refine XR_a (op_ld (st.cell 1 (i := 1) rfl rfl) rfl rfl rfl) rfl rfl ?_
        refine XR_a (op_move rfl) rfl rfl ?_
        refine XR_a (op_index (i := m) rfl rfl rfl (by omega)) rfl rfl ?_
        first | refine XR_a (op_field0 rfl rfl) rfl rfl ?_ | refine XR_a (op_fieldn rfl rfl) rfl rfl ?_
        refine XR_a (op_ld (hst10 1 rfl (by omega) (st.rdS 2 rfl).2) rfl rfl rfl) rfl rfl ?_
        first | refine XR_a (op_field0 rfl rfl) rfl rfl ?_ | refine XR_a (op_fieldn rfl rfl) rfl rfl ?_
        refine XR_a (op_ld (st.cell 0 (i := 2) rfl rfl) rfl rfl rfl) rfl rfl ?_
        refine XR_a (op_max2 rfl rfl) rfl rfl ?_
        refine XR_as (.int .i64 (max (rowQ (Q.take i) w m).2.1 c.2.2 : Nat)) (congrArg (Value.int .i64) (by omega)) ?_
        refine XR_a (op_build (ps := [(1, nV (max (rowQ (Q.take i) w m).2.1 c.2.2)), (2, .bool true)]) (cs := (rC (0, max (rowQ (Q.take i) w m).2.1 c.2.2, true)).toArray) rfl rfl) rfl rfl ?_
        refine XR_a (op_index (i := m) rfl rfl rfl (by omega)) rfl rfl ?_
        refine XR_wn (opl_store_rows (us := rC (0, max (rowQ (Q.take i) w m).2.1 c.2.2, true)) (o := m * 3) st 2 rfl (congrArg (fun x => some (Value.pointer (some ⟨gr, x, none⟩))) (Nat.zero_add _)) rfl rfl rfl (one_rC _) (by rw [cellsR_len]; simp; omega)) rfl rfl fun _ hp st => ?_
        simp only [List.set_cons_zero, List.set_cons_succ] at st
        rw [show (rC (0, max (rowQ (Q.take i) w m).2.1 c.2.2, true)).length = 3 from rfl, cellsR_set _ hm] at st
        have hstep : cellsR (fun j => if j = m then (0, max (rowQ (Q.take i) w m).2.1 c.2.2, true) else rowQ (Q.take i) w j) (2 ^ w) = cellsR (rowQ (Q.take (i + 1)) w) (2 ^ w) := cellsR_congr fun j _ => by
          rw [htk, rowQ_long hQt (by omega), hme]
          by_cases hj : j = m
          · subst hj; simp
          · rw [if_neg hj, if_neg hj]
        rw [hstep] at st
        refine XR_nil ?_
        refine X_blk ?_
        refine X_reg ?_
        first | refine XR_a (op_addN (n := 1) rfl rfl (by simp only [inK]; omega)) rfl rfl ?_ | refine XR_a (op_addI rfl rfl (by simp only [inK]; omega)) rfl rfl ?_ | refine XR_a (op_add rfl rfl) rfl rfl ?_
        refine XR_a (op_move rfl) rfl rfl ?_
        refine XR_nil ?_
        exact X_again (i + 1) (.cons rfl (.cons rfl (.cons rfl (.cons rfl (.cons rfl (.nil _)))))) ⟨st.tail, by omega⟩ (by omega)
    · obtain rfl : i = nc := by omega
      rw [List.take_of_length_le (by omega)] at st
      refine X_exit rfl ?_
      refine X_seq ?_
      refine X_seq ?_
      refine X_reg ?_
      refine XR_a (op_move rfl) rfl rfl ?_
      refine XR_a (op_nilCheck rfl) rfl rfl ?_
      first | refine XR_a (op_field0 rfl rfl) rfl rfl ?_ | refine XR_a (op_fieldn rfl rfl) rfl rfl ?_
      refine XR_a (op_ld (st.cell 0 (i := 1) rfl rfl) rfl rfl rfl) rfl rfl ?_
      refine XR_a (op_len rfl rfl rfl) rfl rfl ?_
      refine XR_a (op_move rfl) rfl rfl ?_
      refine XR_nil ?_
      refine X_block ?_
      replace st := (St.emp.2 st).re 5 [1, 2, 3, 4, 0] (by decide)
      simp only [List.map_cons, List.map_nil, getR] at st
      refine X_loop (fun s => 2 ^ w - s.1) (fun s => [(8, nV w), (9, .pointer (some ⟨p, 0, none⟩)), (88, .slice (some ⟨gr, 0, none⟩) (2 ^ w) cr), (89, .int .i64 (2 ^ w : Nat)), (90, .int .i64 (s.1 : Nat))])
        (fun (s : Nat × List (Nat × Value)) hp => St h0.size h0 hp [pt p 109 (tabC w (.slice (some ⟨gr, 0, none⟩) (2 ^ w) cr) pm (.slice Ac i cc) (sizeTo Q w s.1)), row 58 3 (.slice (some ⟨gr, 0, none⟩) (2 ^ w) cr) (cellsR (rowQ Q w) (2 ^ w)), mapR pm (keysOf s.2), row 111 3 (.slice Ac i cc) (Q.flatMap cC), bigR (moreR Q w) s.2] ∧ s.2.map (·.1) = (deepTo Q w s.1).reverse ∧ s.1 ≤ 2 ^ w)
        (0, []) (.cons rfl (.cons rfl (.cons rfl (.cons rfl (.cons rfl (.nil _)))))) ⟨by rw [sizeTo_zero]; exact st, rfl, by simp⟩ ?_
      clear st
      rintro ⟨m, D⟩ hp ⟨st, hD, hmle⟩
      simp only at st hD hmle ⊢
      refine X_seq ?_
      refine X_reg ?_
      refine XR_a (op_lss rfl rfl) rfl rfl ?_
      refine XR_nil ?_
      refine X_seq ?_
      refine X_if rfl (fun h => ?_) (fun h => ?_)
      · have hm : m < 2 ^ w := by omega
        have hds := deepTo_succ Q w m
        have hsz : sizeTo Q w (m + 1) = sizeTo Q w m + if (rowQ Q w m).2.2 = true then 2 ^ ((rowQ Q w m).2.1 - w) else 0 := sizeTo_succ Q w m
        have hszl := sizeTo_le hQ hw.2 m
        have hcell : ∀ j u, (rC (rowQ Q w m))[j]? = some u → cellH hp ⟨gr, 0 + m * 3 + j, none⟩ = some u := by
          intro j u hu
          obtain ⟨g', o', e', hc'⟩ := (st.rdS 1 rfl).2.at_ (by rw [cellsR_len]; omega)
          cases e'
          have hj : j < 3 := (List.getElem?_eq_some_iff.1 hu).1
          have := hc' (m * 3 + j) u (by rw [cellsR_get _ hm hj]; exact hu)
          rwa [← Nat.add_assoc] at this
        refine X_skip ?_
        refine X_seq ?_
        refine X_block ?_
        refine X_seq ?_
        refine X_reg ?_
        refine XR_a (op_move rfl) rfl rfl ?_
        refine XR_a (op_index (i := m) rfl rfl rfl (by omega)) rfl rfl ?_
        refine XR_a (op_ldA (vs := rC (rowQ Q w m)) hcell rfl rfl rfl rfl) rfl rfl ?_
        refine XR_wa (opl_new rfl) rfl rfl rfl ?_
        rintro _ hp ⟨pr, rfl, hnew⟩
        replace st := st.new hnew
        refine XR_a (op_assign rfl) rfl rfl ?_
        refine XR_wn (opl_store_whole st 0 rfl rfl rfl rfl rfl (one_rC (rowQ Q w m)) rfl) rfl rfl fun _ hp st => ?_
        simp only [List.set_cons_zero, List.set_cons_succ] at st
        refine XR_nil ?_
        refine X_seq ?_
        refine X_reg ?_
        first | refine XR_a (op_field0 rfl rfl) rfl rfl ?_ | refine XR_a (op_fieldn rfl rfl) rfl rfl ?_
        refine XR_a (op_ld (st.cell 0 (i := 2) rfl rfl) rfl rfl rfl) rfl rfl ?_
        refine XR_nil ?_
        refine X_cond rfl (fun h => ?_) (fun h => ?_)
        · obtain ⟨hre, hL0⟩ := rowQ_deep h
          obtain ⟨c0, hc0, hcl0, hLe⟩ := longest_in hL0
          have hL1 := (longQ_iff.1 hcl0).1
          have hL2 := longest_le hQ w m
          have hfresh : ∀ q ∈ keysOf D, q.1 ≠ (m : Int) := by
            intro q hq e
            obtain ⟨x, hx, rfl⟩ := List.mem_map.1 hq
            have hx1 : x.1 ∈ D.map (·.1) := List.mem_map.2 ⟨x, List.mem_reverse.1 hx, rfl⟩
            rw [hD, List.mem_reverse] at hx1
            have := List.mem_range.1 (List.mem_filter.1 hx1).1
            simp only at e; omega
          rw [h, if_pos rfl] at hds hsz
          rw [hre] at hsz
          refine X_reg ?_
          refine XR_a (op_move rfl) rfl rfl ?_
          refine XR_a (op_move rfl) rfl rfl ?_
          refine XR_a (op_ldA (vs := rC (rowQ Q w m)) (st.cells 0 rfl) rfl rfl rfl rfl) rfl rfl ?_
          rw [hre]
          refine XR_wa (opl_call (deepen_spec (F := [bigR (moreR Q w) D, pt pr 58 (rC (rowQ Q w m))]) (m := m) (L := longest Q w m) (R := rowQ Q w) (l := keysOf D) (Q := Q) ((st.re 6 [1, 2, 3, 4, 5, 0] (by decide)).here) hQ hw hm ⟨by omega, hL2⟩ (fun c hc hl => longest_ge hc hl) rfl hfresh (by omega) (by omega)) rfl (by kernel_rfl)) rfl rfl rfl ?_
          rintro _ hp ⟨_, vm, st2⟩
          replace st := ((st.re 6 [1, 2, 3, 4, 5, 0] (by decide)).trans st2).re 7 [0, 5, 1, 2, 3, 4, 6] (by decide)
          simp only [List.map_cons, List.map_nil, getR] at st
          replace st := ((St.star.2 st).re 6 [1, 2, 3, 4, 0, 5] (by decide)).keep 5
          simp only [List.map_cons, List.map_nil, getR] at st
          refine XR_nil ?_
          refine X_blk ?_
          refine X_reg ?_
          first | refine XR_a (op_addN (n := 1) rfl rfl (by simp only [inK]; omega)) rfl rfl ?_ | refine XR_a (op_addI rfl rfl (by simp only [inK]; omega)) rfl rfl ?_ | refine XR_a (op_add rfl rfl) rfl rfl ?_
          refine XR_a (op_move rfl) rfl rfl ?_
          refine XR_nil ?_
          refine X_again (m + 1, (m, vm) :: D) (.cons rfl (.cons rfl (.cons rfl (.cons rfl (.cons rfl (.nil _)))))) ⟨?_, by rw [List.map_cons, hD, hds, List.reverse_append]; rfl, by simp only; omega⟩ (by simp only; omega)
          have e : keysOf ((m, vm) :: D) = keysOf D ++ [((m : Int), vm)] := by unfold keysOf; simp
          simp only
          rw [e, hsz]
          exact st
        · refine X_skip ?_
          refine X_blk ?_
          refine X_reg ?_
          first | refine XR_a (op_addN (n := 1) rfl rfl (by simp only [inK]; omega)) rfl rfl ?_ | refine XR_a (op_addI rfl rfl (by simp only [inK]; omega)) rfl rfl ?_ | refine XR_a (op_add rfl rfl) rfl rfl ?_
          refine XR_a (op_move rfl) rfl rfl ?_
          refine XR_nil ?_
          rw [h, if_neg (by simp), List.append_nil] at hds
          replace hsz : sizeTo Q w (m + 1) = sizeTo Q w m := by rw [hsz, h]; simp
          rw [← hds] at hD
          rw [← hsz] at st
          exact X_again (m + 1, D) (.cons rfl (.cons rfl (.cons rfl (.cons rfl (.cons rfl (.nil _)))))) ⟨st.tail, hD, by simp only; omega⟩ (by simp only; omega)
      · refine X_exit rfl ?_
        refine X_seq ?_
        refine X_reg ?_
        refine XR_a (op_move rfl) rfl rfl ?_
        refine XR_a (op_assign rfl) rfl rfl ?_
        refine XR_a (op_assign rfl) rfl rfl ?_
        refine XR_nil ?_
        refine X_ret (.cons (.tmp rfl) (.cons (.tmp rfl) .nil)) ?_
        obtain rfl : m = 2 ^ w := by omega
        exact ⟨_, by rw [errC_zero.2 hR], st.low, fun _ => ⟨p, rfl, St.untab hD st⟩, fun hh => absurd hR hh⟩
end Go.Bn
