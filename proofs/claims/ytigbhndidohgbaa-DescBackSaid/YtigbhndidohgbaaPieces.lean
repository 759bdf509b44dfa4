/- The contracts of codec.Pieces and of its reference's. -/
import Derived.Test.YtigbhndidohgbaaFieldR
import Derived.Test.YtigbhndidohgbaaPPieces
set_option linter.unusedVariables false
set_option linter.unusedSimpArgs false
set_option maxHeartbeats 4000000
set_option maxRecDepth 20000
namespace Go.Bn
open Go Proofs

theorem wid2 : wid 2 = 2 := rfl
theorem fnum_fail {B p m c a : Nat} {k : Int} {A : Option Addr} {l : List UInt8} {F : List Res} {h0 : Heap} (st : St B h0 h0 (fdG p A m c a false :: F)) (hr : Rd h0 A (l.map byteV)) (hl : l.length = m) (hm : m ≤ 1099511627776) (ha : a ≤ m) (hg : getF l a k = none) :
    Ret Try.prog 69 [.pointer (some ⟨p, 0, none⟩), .int .i64 k] h0 fun v h' => v = .int .u32 0 ∧ St B h0 h' (fdG p A m c a true :: F) := by
  have h := fnum_spec (k := k) st hr hl hm ha
  rw [hg] at h
  exact h
theorem getF_short {l : List UInt8} {a : Nat} {k : Int} (h : l.length < a + wid k) : getF l (a : Int) k = none := by
  unfold getF
  rw [if_neg (by omega)]

theorem fbytes_long {B p m c a n : Nat} {A : Option Addr} {F : List Res} {h0 : Heap} (st : St B h0 h0 (fdG p A m c a false :: F)) (hm : m ≤ 1099511627776) (ha : a ≤ m) (hn : m < a + n) :
    Ret Try.prog 68 [.pointer (some ⟨p, 0, none⟩), .int .i64 (n : Int)] h0 fun v h' => v = .slice none 0 0 ∧ St B h0 h' (fdG p A m c a true :: F) := by
  refine ret_of_X Try.func68 rfl rfl fun w0 hw0 => ?_
  simp only [argE, Nat.zero_add, Nat.reduceAdd]
  refine X_seq ?_
  refine X_reg ?_
  refine XR_a (op_assign rfl) rfl rfl ?_
  refine XR_nil ?_
  refine X_seq ?_
  refine X_seq ?_
  refine X_reg ?_
  refine XR_a (op_move rfl) rfl rfl ?_
  refine XR_wa (opl_call (fok_spec (st.cell 0 rfl rfl)) rfl (by kernel_rfl)) rfl rfl rfl ?_
  rintro _ _ ⟨rfl, rfl⟩
  refine XR_a (op_not rfl) rfl rfl ?_
  refine XR_nil ?_
  refine X_else rfl ?_
  refine X_skip ?_
  refine X_seq ?_
  refine X_seq ?_
  refine X_draw byKind (by kernel_rfl) (by kernel_rfl) ?_
  refine XR_a (op_move rfl) rfl rfl ?_
  refine XR_a (op_lss rfl rfl) rfl rfl ?_
  refine XR_as (.bool false) (congrArg Value.bool (decide_eq_false (by omega))) ?_
  refine XR_a (op_move rfl) rfl rfl ?_
  refine XR_a (op_move rfl) rfl rfl ?_
  refine XR_a (op_move rfl) rfl rfl ?_
  refine XR_a (op_nilCheck rfl) rfl rfl ?_
  first | refine XR_a (op_field0 rfl rfl) rfl rfl ?_ | refine XR_a (op_fieldn rfl rfl) rfl rfl ?_
  refine XR_a (op_ld (by first | assumption | exact st.cell 0 rfl rfl | exact st.cell 1 rfl rfl | exact st.cell 2 rfl rfl | exact st.cell 3 rfl rfl) rfl rfl rfl) rfl rfl ?_
  refine XR_a (op_len rfl rfl rfl) rfl rfl ?_
  refine XR_a (op_move rfl) rfl rfl ?_
  refine XR_a (op_nilCheck rfl) rfl rfl ?_
  first | refine XR_a (op_field0 rfl rfl) rfl rfl ?_ | refine XR_a (op_fieldn rfl rfl) rfl rfl ?_
  refine XR_a (op_ld (by first | assumption | exact st.cell 0 rfl rfl | exact st.cell 1 rfl rfl | exact st.cell 2 rfl rfl | exact st.cell 3 rfl rfl) rfl rfl rfl) rfl rfl ?_
  first | refine XR_a (op_subN rfl rfl (by omega) (by simp only [inK]; omega)) rfl rfl ?_ | refine XR_a (op_subI rfl rfl (by simp only [inK]; omega)) rfl rfl ?_ | refine XR_a (op_sub rfl rfl) rfl rfl ?_
  refine XR_a (op_gtr rfl rfl) rfl rfl ?_
  refine XR_as (.bool true) (congrArg Value.bool (decide_eq_true (by omega))) ?_
  refine XR_a (op_pick_f rfl rfl) rfl rfl ?_
  refine XR_nil ?_
  refine X_then rfl ?_
  refine X_seq ?_
  refine X_reg ?_
  refine XR_a (op_move rfl) rfl rfl ?_
  refine XR_a (op_nilCheck rfl) rfl rfl ?_
  first | refine XR_a (op_field0 rfl rfl) rfl rfl ?_ | refine XR_a (op_fieldn rfl rfl) rfl rfl ?_
  refine XR_wn (opl_store_pt st 0 rfl rfl rfl rfl rfl (rfl)) rfl rfl fun _ hp st => ?_
  simp only [List.set_cons_zero, List.set_cons_succ] at st
  refine XR_nil ?_
  refine X_seq ?_
  refine X_reg ?_
  refine XR_a (op_assign rfl) rfl rfl ?_
  refine XR_nil ?_
  refine X_ret (.cons (.tmp rfl) .nil) ?_
  exact ⟨rfl, st⟩

theorem pieces_spec {m c : Nat} {A : Option Addr} {l : List UInt8} {h0 : Heap} (hr : Rd h0 A (l.map byteV)) (hl : l.length = m) (hm : m ≤ 1099511627776) (hmc : m ≤ c) :
    Ret Try.prog 60 [.slice A m c] h0 fun v h' => ∃ v1, v = retVal [v1, .int .i64 (pieces l).2] ∧ St h0.size h0 h' [row 5 1 v1 ((pieces l).1.map byteV)] := by
  have hp0 : piecesF (m - 0 + 1) (l.drop 0) [] = pieces l := by rw [← hl]; rfl
  refine ret_of_X Try.func60 rfl rfl fun w0 hw0 => ?_
  simp only [argE, Nat.zero_add, Nat.reduceAdd]
  refine X_seq ?_
  refine X_reg ?_
  refine XR_a (op_assign rfl) rfl rfl ?_
  refine XR_a (op_assign rfl) rfl rfl ?_
  refine XR_nil ?_
  refine X_seq ?_
  refine X_reg ?_
  refine XR_a (op_move rfl) rfl rfl ?_
  refine XR_wa (opl_call (fnew_spec) rfl (by kernel_rfl)) rfl rfl rfl ?_
  rintro _ hp ⟨pr, rfl, st⟩
  refine XR_a (op_assign rfl) rfl rfl ?_
  refine XR_nil ?_
  refine X_seq ?_
  refine X_reg ?_
  refine XR_a (op_assign rfl) rfl rfl ?_
  refine XR_nil ?_
  refine X_block ?_
  replace st := st.nilrow 5 1
  refine X_loop (fun s => m - s.1) (fun s => [(4, .pointer (some ⟨pr, 0, none⟩)), (5, s.2.1)])
    (fun (s : Nat × Value × List UInt8) hp => St h0.size h0 hp [row 5 1 s.2.1 (s.2.2.map byteV), fdG pr A m c s.1 false] ∧ s.1 ≤ m ∧ s.2.2.length ≤ s.1 ∧ piecesF (m - s.1 + 1) (l.drop s.1) s.2.2 = pieces l)
    (0, _, []) (.cons rfl (.cons rfl (.nil _))) ⟨st, by simp, by simp, hp0⟩ ?_
  clear st hp0
  rintro ⟨a, v, out⟩ hp ⟨st, ha, hout, hpp⟩
  simp only at st ha hout hpp ⊢
  replace st := st.perm (List.Perm.swap _ _ _)
  refine X_block ?_
  refine X_seq ?_
  refine X_reg ?_
  refine XR_a (op_move rfl) rfl rfl ?_
  by_cases h2 : a + 2 ≤ m
  · refine XR_wa (opl_call (fnum_at (a + 2) (n := leV ((l.drop a).take 2)) st.here (hr.ext st.low) hl hm ha (getF_at (by rw [wid2, hl]; exact h2)) (by rw [wid2])) rfl (by kernel_rfl)) rfl rfl rfl ?_
    rintro _ hp ⟨rfl, st2⟩
    replace st := st.trans st2
    have hn16 : leV ((l.drop a).take 2) < 65536 := Nat.lt_of_lt_of_le (leV_lt _) (Nat.le_trans (Nat.pow_le_pow_right (by omega) (show _ ≤ 2 by rw [List.length_take]; omega)) (by decide))
    have hstep := piecesF_step (out := out) (n := leV ((l.drop a).take 2)) hl h2 rfl
    have hlong := piecesF_long (out := out) (n := leV ((l.drop a).take 2)) hl h2 rfl
    have hmore := fun q => piecesF_more (out := out) (a := a) hl q
    have hdone := fun q => piecesF_done (out := out) (a := a) hl q
    generalize leV ((l.drop a).take 2) = n at *
    first | refine XR_a (op_convI rfl rfl (by simp only [inK]; omega)) rfl rfl ?_ | refine XR_a (op_conv rfl rfl) rfl rfl ?_
    refine XR_a (op_assign rfl) rfl rfl ?_
    refine XR_nil ?_
    refine X_seq ?_
    refine X_reg ?_
    refine XR_a (op_move rfl) rfl rfl ?_
    refine XR_a (op_move rfl) rfl rfl ?_
    by_cases h3 : a + 2 + n ≤ m
    · refine XR_wa (opl_call (fbytes_ok (n := n) st.here (hr.ext st.low) hl hm hmc (by omega)) rfl (by kernel_rfl)) rfl rfl rfl ?_
      rintro w hp st2
      replace st := st.trans st2
      obtain ⟨A7, n7, c7, rfl, hlen7, _, _, hrd7⟩ := st.row 1 rfl
      refine XR_a (op_assign rfl) rfl rfl ?_
      refine XR_nil ?_
      refine X_seq ?_
      refine X_block ?_
      refine X_seq ?_
      refine X_reg ?_
      refine XR_a (op_move rfl) rfl rfl ?_
      refine XR_wa (opl_call (fok_spec (st.cell 0 rfl rfl)) rfl (by kernel_rfl)) rfl rfl rfl ?_
      rintro _ _ ⟨rfl, rfl⟩
      refine XR_a (op_not rfl) rfl rfl ?_
      refine XR_a (op_assign rfl) rfl rfl ?_
      refine XR_nil ?_
      refine X_else rfl ?_
      refine X_seq ?_
      refine X_reg ?_
      refine XR_a (op_move rfl) rfl rfl ?_
      refine XR_a (op_eql rfl rfl) rfl rfl ?_
      refine XR_a (op_move rfl) rfl rfl ?_
      refine XR_if 23 rfl (fun h => ?_) (fun h => ?_)
      · refine XR_a (op_move rfl) rfl rfl ?_
        refine XR_wa (opl_call (fleft_spec (st.cell 0 rfl rfl) (st.cell 0 rfl rfl) hm (by omega)) rfl (by kernel_rfl)) rfl rfl rfl ?_
        rintro _ _ ⟨rfl, rfl⟩
        refine XR_a (op_gtr rfl rfl) rfl rfl ?_
        refine XR_a (op_pick_t rfl rfl) rfl rfl ?_
        refine XR_a (op_assign rfl) rfl rfl ?_
        refine XR_nil ?_
        refine X_if rfl (fun h => ?_) (fun h => ?_)
        · refine X_seq ?_
          refine X_reg ?_
          refine XR_a (op_assign rfl) rfl rfl ?_
          refine XR_a (op_assign rfl) rfl rfl ?_
          refine XR_nil ?_
          refine X_ret (.cons (.tmp rfl) (.cons (.tmp rfl) .nil)) ?_
          rw [hmore (by omega) (by omega)] at hpp
          refine ⟨_, by rw [← hpp], ?_⟩
          rw [← hpp]
          exact (st.nilrow 5 1).only
        · refine X_seq ?_
          refine X_reg ?_
          refine XR_a (op_move rfl) rfl rfl ?_
          refine XR_a (op_eql rfl rfl) rfl rfl ?_
          refine XR_a (op_assign rfl) rfl rfl ?_
          refine XR_nil ?_
          refine X_if rfl (fun h => ?_) (fun h => ?_)
          · refine X_seq ?_
            refine X_reg ?_
            refine XR_a (op_move rfl) rfl rfl ?_
            refine XR_a (op_assign rfl) rfl rfl ?_
            refine XR_a (op_assign rfl) rfl rfl ?_
            refine XR_nil ?_
            refine X_ret (.cons (.tmp rfl) (.cons (.tmp rfl) .nil)) ?_
            first
              | (exfalso; omega)
              | (rw [hdone (by omega) (by omega)] at hpp
                 refine ⟨_, by rw [← hpp], ?_⟩
                 rw [← hpp]
                 exact st.tail.tail)
          · refine X_skip ?_
            refine X_blk ?_
            refine X_reg ?_
            refine XR_a (op_move rfl) rfl rfl ?_
            refine XR_a (op_move rfl) rfl rfl ?_
            refine XR_wa (opl_append st 2 rfl (hrd7) (hlen7) (one_bytes _) (by simp; omega) rfl rfl rfl rfl rfl rfl rfl) rfl rfl rfl fun v hp st => ?_
            simp only [List.set_cons_zero, List.set_cons_succ] at st
            refine XR_a (op_assign rfl) rfl rfl ?_
            refine XR_nil ?_
            refine X_blk ?_
            rw [hstep h3 (by omega)] at hpp
            rw [← List.map_append] at st
            refine X_again (a + 2 + n, v, out ++ (l.drop (a + 2)).take n) (.cons rfl (.cons rfl (.nil _))) ⟨(st.perm (List.Perm.swap _ _ _)).tail.perm (List.Perm.swap _ _ _), h3, ?_, hpp⟩ (by simp only; omega)
            simp only [List.length_append, List.length_take]
            omega
      · refine XR_no rfl rfl ?_
        refine XR_no rfl rfl ?_
        refine XR_no rfl rfl ?_
        refine XR_a (op_pick_f rfl rfl) rfl rfl ?_
        refine XR_a (op_assign rfl) rfl rfl ?_
        refine XR_nil ?_
        refine X_else rfl ?_
        refine X_seq ?_
        refine X_reg ?_
        refine XR_a (op_move rfl) rfl rfl ?_
        refine XR_a (op_eql rfl rfl) rfl rfl ?_
        refine XR_a (op_assign rfl) rfl rfl ?_
        refine XR_nil ?_
        refine X_if rfl (fun h => ?_) (fun h => ?_)
        · refine X_seq ?_
          refine X_reg ?_
          refine XR_a (op_move rfl) rfl rfl ?_
          refine XR_a (op_assign rfl) rfl rfl ?_
          refine XR_a (op_assign rfl) rfl rfl ?_
          refine XR_nil ?_
          refine X_ret (.cons (.tmp rfl) (.cons (.tmp rfl) .nil)) ?_
          first
            | (exfalso; omega)
            | (rw [hdone (by omega) (by omega)] at hpp
               refine ⟨_, by rw [← hpp], ?_⟩
               rw [← hpp]
               exact st.tail.tail)
        · refine X_skip ?_
          refine X_blk ?_
          refine X_reg ?_
          refine XR_a (op_move rfl) rfl rfl ?_
          refine XR_a (op_move rfl) rfl rfl ?_
          refine XR_wa (opl_append st 2 rfl (hrd7) (hlen7) (one_bytes _) (by simp; omega) rfl rfl rfl rfl rfl rfl rfl) rfl rfl rfl fun v hp st => ?_
          simp only [List.set_cons_zero, List.set_cons_succ] at st
          refine XR_a (op_assign rfl) rfl rfl ?_
          refine XR_nil ?_
          refine X_blk ?_
          rw [hstep h3 (by omega)] at hpp
          rw [← List.map_append] at st
          refine X_again (a + 2 + n, v, out ++ (l.drop (a + 2)).take n) (.cons rfl (.cons rfl (.nil _))) ⟨(st.perm (List.Perm.swap _ _ _)).tail.perm (List.Perm.swap _ _ _), h3, ?_, hpp⟩ (by simp only; omega)
          simp only [List.length_append, List.length_take]
          omega
    · refine XR_wa (opl_call (fbytes_long (n := n) st.here hm (by omega) (by omega)) rfl (by kernel_rfl)) rfl rfl rfl ?_
      rintro _ hp ⟨rfl, st2⟩
      replace st := st.trans st2
      refine XR_a (op_assign rfl) rfl rfl ?_
      refine XR_nil ?_
      refine X_seq ?_
      refine X_block ?_
      refine X_seq ?_
      refine X_reg ?_
      refine XR_a (op_move rfl) rfl rfl ?_
      refine XR_wa (opl_call (fok_spec (st.cell 0 rfl rfl)) rfl (by kernel_rfl)) rfl rfl rfl ?_
      rintro _ _ ⟨rfl, rfl⟩
      refine XR_a (op_not rfl) rfl rfl ?_
      refine XR_a (op_assign rfl) rfl rfl ?_
      refine XR_nil ?_
      refine X_then rfl ?_
      refine X_seq ?_
      refine X_reg ?_
      refine XR_a (op_assign rfl) rfl rfl ?_
      refine XR_a (op_assign rfl) rfl rfl ?_
      refine XR_nil ?_
      refine X_ret (.cons (.tmp rfl) (.cons (.tmp rfl) .nil)) ?_
      rw [hlong (by omega)] at hpp
      refine ⟨_, by rw [← hpp], ?_⟩
      rw [← hpp]
      exact (st.nilrow 5 1).only
  · refine XR_wa (opl_call (fnum_fail st.here (hr.ext st.low) hl hm ha (getF_short (by rw [wid2, hl]; omega))) rfl (by kernel_rfl)) rfl rfl rfl ?_
    rintro _ hp ⟨rfl, st2⟩
    replace st := st.trans st2
    first | refine XR_a (op_convI rfl rfl (by simp only [inK]; omega)) rfl rfl ?_ | refine XR_a (op_conv rfl rfl) rfl rfl ?_
    refine XR_a (op_assign rfl) rfl rfl ?_
    refine XR_nil ?_
    refine X_seq ?_
    refine X_reg ?_
    refine XR_a (op_move rfl) rfl rfl ?_
    refine XR_a (op_move rfl) rfl rfl ?_
    refine XR_wa (opl_call (fbytes_bad (st.cell 0 rfl rfl)) rfl (by kernel_rfl)) rfl rfl rfl ?_
    rintro _ _ ⟨rfl, rfl⟩
    refine XR_a (op_assign rfl) rfl rfl ?_
    refine XR_nil ?_
    refine X_seq ?_
    refine X_block ?_
    refine X_seq ?_
    refine X_reg ?_
    refine XR_a (op_move rfl) rfl rfl ?_
    refine XR_wa (opl_call (fok_spec (st.cell 0 rfl rfl)) rfl (by kernel_rfl)) rfl rfl rfl ?_
    rintro _ _ ⟨rfl, rfl⟩
    refine XR_a (op_not rfl) rfl rfl ?_
    refine XR_a (op_assign rfl) rfl rfl ?_
    refine XR_nil ?_
    refine X_then rfl ?_
    refine X_seq ?_
    refine X_reg ?_
    refine XR_a (op_assign rfl) rfl rfl ?_
    refine XR_a (op_assign rfl) rfl rfl ?_
    refine XR_nil ?_
    refine X_ret (.cons (.tmp rfl) (.cons (.tmp rfl) .nil)) ?_
    rw [piecesF_short hl (by omega) ha] at hpp
    refine ⟨_, by rw [← hpp], ?_⟩
    rw [← hpp]
    exact (st.nilrow 5 1).only

theorem pieces_ref {m c : Nat} {A : Option Addr} {l : List UInt8} {h0 : Heap} (hr : Rd h0 A (l.map byteV)) (hl : l.length = m) (hm : m ≤ 1099511627776) (hmc : m ≤ c) :
    Ret Try.prog 55 [.slice A m c] h0 fun v h' => ∃ v1, v = retVal [v1, .int .i64 (pieces l).2] ∧ St h0.size h0 h' [row 5 1 v1 ((pieces l).1.map byteV)] := by
  have hp0 : piecesF (m - 0 + 1) (l.drop 0) [] = pieces l := by rw [← hl]; rfl
  refine ret_of_X Try.func55 rfl rfl fun w0 hw0 => ?_
  simp only [argE, Nat.zero_add, Nat.reduceAdd]
  refine X_seq ?_
  refine X_reg ?_
  refine XR_a (op_assign rfl) rfl rfl ?_
  refine XR_a (op_assign rfl) rfl rfl ?_
  refine XR_nil ?_
  refine X_seq ?_
  refine X_reg ?_
  refine XR_a (op_assign rfl) rfl rfl ?_
  refine XR_nil ?_
  refine X_seq ?_
  refine X_reg ?_
  refine XR_a (op_assign rfl) rfl rfl ?_
  refine XR_nil ?_
  refine X_seq ?_
  refine X_block ?_
  have st := (St.start h0).nilrow 5 1
  refine X_loop (fun s => m - s.1) (fun s => [(0, .slice A m c), (4, s.2.1), (5, .int .i64 (s.1 : Int))])
    (fun (s : Nat × Value × List UInt8) hp => St h0.size h0 hp [row 5 1 s.2.1 (s.2.2.map byteV)] ∧ s.1 ≤ m ∧ s.2.2.length ≤ s.1 ∧ piecesF (m - s.1 + 1) (l.drop s.1) s.2.2 = pieces l)
    (0, _, []) (.cons rfl (.cons rfl (.cons rfl (.nil _)))) ⟨st, by simp, by simp, hp0⟩ ?_
  clear st hp0
  rintro ⟨a, v, out⟩ hp ⟨st, ha, hout, hpp⟩
  simp only at st ha hout hpp ⊢
  refine X_seq ?_
  refine X_seq ?_
  refine X_reg ?_
  refine XR_a (op_move rfl) rfl rfl ?_
  refine XR_a (op_len rfl rfl rfl) rfl rfl ?_
  refine XR_a (op_move rfl) rfl rfl ?_
  first | refine XR_a (op_subN rfl rfl (by omega) (by simp only [inK]; omega)) rfl rfl ?_ | refine XR_a (op_subI rfl rfl (by simp only [inK]; omega)) rfl rfl ?_ | refine XR_a (op_sub rfl rfl) rfl rfl ?_
  refine XR_a (op_geq rfl rfl) rfl rfl ?_
  refine XR_nil ?_
  refine X_if rfl (fun h => ?_) (fun h => ?_)
  · have h2 : a + 2 ≤ m := by omega
    obtain ⟨b, o, rfl, hc⟩ := (hr.ext st.low).at_ (by rw [List.length_map]; omega)
    have hca := hc a (byteV l[a]) (by simp [show a < l.length by omega])
    have hcb := hc (a + 1) (byteV l[a + 1]) (by simp [show a + 1 < l.length by omega])
    have hn2 := leV2 (l := l) (a := a) (by omega)
    have xa := (l[a]).toNat_lt
    have xb := (l[a + 1]).toNat_lt
    have hstep := piecesF_step (out := out) (n := leV ((l.drop a).take 2)) hl h2 rfl
    have hlong := piecesF_long (out := out) (n := leV ((l.drop a).take 2)) hl h2 rfl
    have hmore := fun q => piecesF_more (out := out) (a := a) hl q
    have hdone := fun q => piecesF_done (out := out) (a := a) hl q
    generalize leV ((l.drop a).take 2) = n at *
    generalize l[a] = ya at *
    generalize l[a + 1] = yb at *
    refine X_skip ?_
    refine X_block ?_
    refine X_seq ?_
    refine X_draw byKind (by kernel_rfl) (by kernel_rfl) ?_
    refine XR_a (op_move rfl) rfl rfl ?_
    refine XR_a (op_move rfl) rfl rfl ?_
    first | refine XR_a (op_index1 rfl rfl rfl (by omega)) rfl rfl ?_ | refine XR_a (op_index rfl rfl rfl (by omega)) rfl rfl ?_
    refine XR_a (op_ld (hca) rfl rfl rfl) rfl rfl ?_
    first | refine XR_a (op_convI rfl rfl (by simp only [inK]; omega)) rfl rfl ?_ | refine XR_a (op_conv rfl rfl) rfl rfl ?_
    refine XR_a (op_move rfl) rfl rfl ?_
    refine XR_a (op_move rfl) rfl rfl ?_
    first | refine XR_a (op_addN (n := 1) rfl rfl (by simp only [inK]; omega)) rfl rfl ?_ | refine XR_a (op_addI rfl rfl (by simp only [inK]; omega)) rfl rfl ?_ | refine XR_a (op_add rfl rfl) rfl rfl ?_
    first | refine XR_a (op_index1 rfl rfl rfl (by omega)) rfl rfl ?_ | refine XR_a (op_index rfl rfl rfl (by omega)) rfl rfl ?_
    refine XR_a (op_ld (hcb) rfl rfl rfl) rfl rfl ?_
    first | refine XR_a (op_convI rfl rfl (by simp only [inK]; omega)) rfl rfl ?_ | refine XR_a (op_conv rfl rfl) rfl rfl ?_
    refine XR_a (op_mulN (m := 256) rfl rfl (by simp only [inK]; omega)) rfl rfl ?_
    first | refine XR_a (op_addN rfl rfl (by simp only [inK]; omega)) rfl rfl ?_ | refine XR_a (op_addI rfl rfl (by simp only [inK]; omega)) rfl rfl ?_ | refine XR_a (op_add rfl rfl) rfl rfl ?_
    rw [← hn2]
    refine XR_a (op_assign rfl) rfl rfl ?_
    refine XR_nil ?_
    refine X_seq ?_
    refine X_reg ?_
    refine XR_a (op_move rfl) rfl rfl ?_
    first | refine XR_a (op_addN (n := 2) rfl rfl (by simp only [inK]; omega)) rfl rfl ?_ | refine XR_a (op_addI rfl rfl (by simp only [inK]; omega)) rfl rfl ?_ | refine XR_a (op_add rfl rfl) rfl rfl ?_
    refine XR_a (op_assign rfl) rfl rfl ?_
    refine XR_nil ?_
    refine X_seq ?_
    refine X_seq ?_
    refine X_reg ?_
    refine XR_a (op_move rfl) rfl rfl ?_
    refine XR_a (op_eql rfl rfl) rfl rfl ?_
    refine XR_nil ?_
    refine X_if rfl (fun h => ?_) (fun h => ?_)
    · refine X_seq ?_
      refine X_seq ?_
      refine X_reg ?_
      refine XR_a (op_move rfl) rfl rfl ?_
      refine XR_a (op_move rfl) rfl rfl ?_
      refine XR_a (op_len rfl rfl rfl) rfl rfl ?_
      refine XR_a (op_lss rfl rfl) rfl rfl ?_
      refine XR_nil ?_
      refine X_if rfl (fun h => ?_) (fun h => ?_)
      · refine X_seq ?_
        refine X_reg ?_
        refine XR_a (op_assign rfl) rfl rfl ?_
        refine XR_a (op_assign rfl) rfl rfl ?_
        refine XR_nil ?_
        refine X_ret (.cons (.tmp rfl) (.cons (.tmp rfl) .nil)) ?_
        rw [hmore (by omega) (by omega)] at hpp
        refine ⟨_, by rw [← hpp], ?_⟩
        rw [← hpp]
        exact (st.nilrow 5 1).only
      · refine X_skip ?_
        refine X_seq ?_
        refine X_reg ?_
        refine XR_a (op_move rfl) rfl rfl ?_
        refine XR_a (op_assign rfl) rfl rfl ?_
        refine XR_a (op_assign rfl) rfl rfl ?_
        refine XR_nil ?_
        refine X_ret (.cons (.tmp rfl) (.cons (.tmp rfl) .nil)) ?_
        rw [hdone (by omega) (by omega)] at hpp
        refine ⟨_, by rw [← hpp], ?_⟩
        rw [← hpp]
        exact st
    · refine X_skip ?_
      refine X_seq ?_
      refine X_seq ?_
      refine X_reg ?_
      refine XR_a (op_move rfl) rfl rfl ?_
      refine XR_a (op_move rfl) rfl rfl ?_
      refine XR_a (op_len rfl rfl rfl) rfl rfl ?_
      refine XR_a (op_move rfl) rfl rfl ?_
      first | refine XR_a (op_subN rfl rfl (by omega) (by simp only [inK]; omega)) rfl rfl ?_ | refine XR_a (op_subI rfl rfl (by simp only [inK]; omega)) rfl rfl ?_ | refine XR_a (op_sub rfl rfl) rfl rfl ?_
      refine XR_a (op_gtr rfl rfl) rfl rfl ?_
      refine XR_nil ?_
      refine X_if rfl (fun h => ?_) (fun h => ?_)
      · refine X_seq ?_
        refine X_reg ?_
        refine XR_a (op_assign rfl) rfl rfl ?_
        refine XR_a (op_assign rfl) rfl rfl ?_
        refine XR_nil ?_
        refine X_ret (.cons (.tmp rfl) (.cons (.tmp rfl) .nil)) ?_
        rw [hlong (by omega)] at hpp
        refine ⟨_, by rw [← hpp], ?_⟩
        rw [← hpp]
        exact (st.nilrow 5 1).only
      · refine X_skip ?_
        refine X_seq ?_
        refine X_reg ?_
        refine XR_a (op_move rfl) rfl rfl ?_
        refine XR_a (op_move rfl) rfl rfl ?_
        refine XR_a (op_move rfl) rfl rfl ?_
        refine XR_a (op_move rfl) rfl rfl ?_
        refine XR_a (op_move rfl) rfl rfl ?_
        first | refine XR_a (op_addN rfl rfl (by simp only [inK]; omega)) rfl rfl ?_ | refine XR_a (op_addI rfl rfl (by simp only [inK]; omega)) rfl rfl ?_ | refine XR_a (op_add rfl rfl) rfl rfl ?_
        refine XR_a (op_slice rfl rfl rfl rfl (by omega) (by omega)) rfl rfl ?_
        have hcut := (hr.ext st.low).cut (a + 2) 1 c n (by intro hh; simp; omega)
        rw [Nat.mul_one, ← List.map_drop, ← List.map_take] at hcut
        refine XR_wa (opl_append st 0 rfl (hcut) (by simp; omega) (one_bytes _) (by simp; omega) rfl rfl rfl rfl rfl rfl rfl) rfl rfl rfl fun v hp st => ?_
        simp only [List.set_cons_zero, List.set_cons_succ] at st
        refine XR_a (op_assign rfl) rfl rfl ?_
        refine XR_nil ?_
        refine X_reg ?_
        refine XR_a (op_move rfl) rfl rfl ?_
        refine XR_a (op_move rfl) rfl rfl ?_
        first | refine XR_a (op_addN rfl rfl (by simp only [inK]; omega)) rfl rfl ?_ | refine XR_a (op_addI rfl rfl (by simp only [inK]; omega)) rfl rfl ?_ | refine XR_a (op_add rfl rfl) rfl rfl ?_
        refine XR_a (op_assign rfl) rfl rfl ?_
        refine XR_nil ?_
        refine X_blk ?_
        rw [hstep (by omega) (by omega)] at hpp
        rw [← List.map_append] at st
        refine X_again (a + 2 + n, v, out ++ (l.drop (a + 2)).take n) (.cons rfl (.cons rfl (.cons rfl (.nil _)))) ⟨st, by simp only; omega, ?_, hpp⟩ (by simp only; omega)
        simp only [List.length_append, List.length_take]
        omega
  · refine X_exit rfl ?_
    refine X_seq ?_
    refine X_reg ?_
    refine XR_a (op_assign rfl) rfl rfl ?_
    refine XR_a (op_assign rfl) rfl rfl ?_
    refine XR_nil ?_
    refine X_ret (.cons (.tmp rfl) (.cons (.tmp rfl) .nil)) ?_
    rw [piecesF_short hl (by omega) ha] at hpp
    refine ⟨_, by rw [← hpp], ?_⟩
    rw [← hpp]
    exact (st.nilrow 5 1).only
end Go.Bn
