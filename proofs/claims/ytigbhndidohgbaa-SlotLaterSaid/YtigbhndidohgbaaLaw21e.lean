/- The law SlotLater comes to true. -/
import Derived.Test.YtigbhndidohgbaaLaw21d
set_option linter.unusedVariables false
set_option linter.unusedSimpArgs false
set_option maxHeartbeats 4000000
set_option maxRecDepth 20000
namespace Go.Bn
open Go Proofs

def chooseStep (o T : Slt × Int) : Slt × Int := if T.2 = 0 ∧ (o.2 ≠ 0 ∨ o.1.seq < T.1.seq) then (T.1, 0) else o
def chooseN (l : List UInt8) : Slt × Int := chooseStep (chooseStep (Slt.nil, 3) (slotTake (l.take 512))) (slotTake ((l.drop 512).take 512))
theorem chooseN_two {x y : List UInt8} (hx : x.length = 512) (hy : y.length = 512) : chooseN (x ++ y) = chooseStep (chooseStep (Slt.nil, 3) (slotTake x)) (slotTake y) := by
  unfold chooseN
  rw [List.take_left' hx, List.drop_left' hx, List.take_of_length_le (by omega)]

theorem choose_spec {tp c : Nat} {A : Option Addr} {l : List UInt8} {h0 : Heap} (ht : Tab h0 tp) (hr : Rd h0 A (l.map byteV)) (hl : l.length = 1024) (hmc : 1024 ≤ c) :
    Ret Try.prog 53 [.pointer (some ⟨tp, 0, none⟩), .slice A 1024 c] h0 fun v h' => v = retVal [.agg (sltC (chooseN l).1).toArray, .int .i64 (chooseN l).2] ∧ Ext h0 h' := by
  obtain ⟨o1, h1⟩ : ∃ o1, chooseStep (Slt.nil, 3) (slotTake (l.take 512)) = o1 := ⟨_, rfl⟩
  obtain ⟨o2, h2⟩ : ∃ o2, chooseN l = o2 := ⟨_, rfl⟩
  have h3 : chooseStep o1 (slotTake ((l.drop 512).take 512)) = o2 := by rw [← h1, ← h2]; rfl
  rw [h2]
  refine ret_of_X Try.func53 rfl rfl fun w0 hw0 => ?_
  simp only [argE, Nat.zero_add, Nat.reduceAdd]
  have st := St.start h0
  refine X_seq ?_
  refine X_reg ?_
  refine XR_wa (opl_new rfl) rfl rfl rfl ?_
  rintro _ hp ⟨p4, rfl, hnew⟩
  replace st := st.new hnew
  refine XR_a (op_assign rfl) rfl rfl ?_
  refine XR_nil ?_
  refine X_seq ?_
  refine X_reg ?_
  refine XR_a (op_build (ps := []) (cs := (sltC Slt.nil).toArray) rfl rfl) rfl rfl ?_
  refine XR_wa (opl_new rfl) rfl rfl rfl ?_
  rintro _ hp ⟨p6, rfl, hnew⟩
  replace st := st.new hnew
  refine XR_wn (opl_store_whole (us := sltC Slt.nil) st 0 rfl rfl rfl rfl rfl (sltC_one _) rfl) rfl rfl fun _ hp st => ?_
  simp only [List.set_cons_zero, List.set_cons_succ] at st
  refine XR_a (op_assign rfl) rfl rfl ?_
  refine XR_nil ?_
  refine X_seq ?_
  refine X_seq ?_
  refine X_reg ?_
  refine XR_a (op_assign rfl) rfl rfl ?_
  refine XR_nil ?_
  refine X_block ?_
  refine X_loop (fun s => 2 - s.1) (fun s => [(0, .pointer (some ⟨tp, 0, none⟩)), (1, .slice A 1024 c), (4, .pointer (some ⟨p4, 0, none⟩)), (6, .pointer (some ⟨p6, 0, none⟩)), (7, .int .i64 s.2.2), (8, .int .i64 ((512 * s.1 : Nat) : Int))])
    (fun (s : Nat × Slt × Int) hp => St h0.size h0 hp [pt p6 72 (sltC s.2.1), pt p4 72 (sltC Slt.nil)] ∧ (s.1 = 0 ∧ s.2 = (Slt.nil, 3) ∨ s.1 = 1 ∧ s.2 = o1 ∨ s.1 = 2 ∧ s.2 = o2))
    (0, Slt.nil, 3) (.cons rfl (.cons rfl (.cons rfl (.cons rfl (.cons rfl (.cons rfl (.nil _))))))) ⟨st, .inl ⟨rfl, rfl⟩⟩ ?_
  clear st hnew
  rintro ⟨i, o, e⟩ hp ⟨st, hi⟩
  simp only at st hi ⊢
  have hi2 : i ≤ 2 := by omega
  refine X_seq ?_
  refine X_seq ?_
  refine X_reg ?_
  refine XR_a (op_move rfl) rfl rfl ?_
  refine XR_a (op_leq rfl rfl) rfl rfl ?_
  refine XR_a (op_move rfl) rfl rfl ?_
  refine XR_if 14 rfl (fun h => ?_) (fun h => ?_)
  · refine XR_a (op_move rfl) rfl rfl ?_
    refine XR_a (op_move rfl) rfl rfl ?_
    refine XR_a (op_len rfl rfl rfl) rfl rfl ?_
    first | refine XR_a (op_subN (n := 512) rfl rfl (by omega) (by simp only [inK]; omega)) rfl rfl ?_ | refine XR_a (op_subI rfl rfl (by simp only [inK]; omega)) rfl rfl ?_ | refine XR_a (op_sub rfl rfl) rfl rfl ?_
    refine XR_a (op_leq rfl rfl) rfl rfl ?_
    refine XR_a (op_pick_t rfl rfl) rfl rfl ?_
    refine XR_nil ?_
    refine X_if rfl (fun h => ?_) (fun h => ?_)
    · have hi1 : i ≤ 1 := by omega
      refine X_skip ?_
      refine X_seq ?_
      refine X_block ?_
      refine X_seq ?_
      refine X_reg ?_
      refine XR_a (op_move rfl) rfl rfl ?_
      refine XR_a (op_move rfl) rfl rfl ?_
      refine XR_a (op_move rfl) rfl rfl ?_
      refine XR_a (op_move rfl) rfl rfl ?_
      first | refine XR_a (op_addN (n := 512) rfl rfl (by simp only [inK]; omega)) rfl rfl ?_ | refine XR_a (op_addI rfl rfl (by simp only [inK]; omega)) rfl rfl ?_ | refine XR_a (op_add rfl rfl) rfl rfl ?_
      refine XR_a (op_slice rfl rfl rfl rfl (by omega) (by omega)) rfl rfl ?_
      have hcut := (hr.ext st.low).cut (512 * i) 1 c 512 (by intro hh; simp; omega)
      rw [Nat.mul_one, ← List.map_drop, ← List.map_take] at hcut
      refine XR_wa (opl_call (stake_spec (ht.ext st.low) hcut (by rw [List.length_take, List.length_drop]; omega) (by omega) (by omega)) rfl (by kernel_rfl)) rfl rfl rfl ?_
      rintro _ hp ⟨rfl, hx3⟩
      replace st := st.ext hx3
      have hstep : ∃ o', chooseStep (o, e) (slotTake ((l.drop (512 * i)).take 512)) = o' ∧ (i = 0 ∧ o' = o1 ∨ i = 1 ∧ o' = o2) := by
        refine ⟨_, rfl, ?_⟩
        rcases hi with ⟨rfl, hh⟩ | ⟨rfl, hh⟩ | ⟨rfl, hh⟩
        · rw [hh]; exact .inl ⟨rfl, h1⟩
        · rw [hh]; exact .inr ⟨rfl, h3⟩
        · omega
      obtain ⟨o', hstep, ho'⟩ := hstep
      have hnext : ∀ z : Slt × Int, z = o' → (i + 1 = 0 ∧ z = (Slt.nil, 3) ∨ i + 1 = 1 ∧ z = o1 ∨ i + 1 = 2 ∧ z = o2) := by
        rintro z rfl
        rcases ho' with ⟨h7, h8⟩ | ⟨h7, h8⟩
        · exact .inr (.inl ⟨by omega, h8⟩)
        · exact .inr (.inr ⟨by omega, h8⟩)
      obtain ⟨T, hT⟩ : ∃ T, slotTake ((l.drop (512 * i)).take 512) = T := ⟨_, rfl⟩
      rw [hT] at hstep ⊢
      unfold chooseStep at hstep
      simp only at hstep
      refine XR_a (op_move rfl) rfl rfl ?_
      refine XR_a (op_extract rfl rfl) rfl rfl ?_
      refine XR_a (op_extract rfl rfl) rfl rfl ?_
      refine XR_wa (opl_new rfl) rfl rfl rfl ?_
      rintro _ hp ⟨p9, rfl, hnew⟩
      replace st := st.new hnew
      refine XR_wn (opl_store_whole (us := sltC T.1) st 0 rfl rfl rfl rfl rfl (sltC_one _) rfl) rfl rfl fun _ hp st => ?_
      simp only [List.set_cons_zero, List.set_cons_succ] at st
      refine XR_a (op_assign rfl) rfl rfl ?_
      refine XR_nil ?_
      refine X_seq ?_
      refine X_reg ?_
      refine XR_a (op_move rfl) rfl rfl ?_
      refine XR_a (op_eql rfl rfl) rfl rfl ?_
      refine XR_a (op_move rfl) rfl rfl ?_
      refine XR_if 35 rfl (fun h => ?_) (fun h => ?_)
      · refine XR_a (op_move rfl) rfl rfl ?_
        refine XR_a (op_neq rfl rfl) rfl rfl ?_
        refine XR_a (op_move rfl) rfl rfl ?_
        refine XR_if 38 rfl (fun h => ?_) (fun h => ?_)
        · refine XR_no rfl rfl ?_
          refine XR_no rfl rfl ?_
          refine XR_no rfl rfl ?_
          refine XR_no rfl rfl ?_
          refine XR_no rfl rfl ?_
          refine XR_a (op_pick_t rfl rfl) rfl rfl ?_
          refine XR_a (op_pick_t rfl rfl) rfl rfl ?_
          refine XR_nil ?_
          refine X_then rfl ?_
          refine X_reg ?_
          refine XR_a (op_ldA (st.cells 0 rfl) rfl rfl rfl rfl) rfl rfl ?_
          refine XR_wn (opl_store_whole (us := sltC T.1) st 1 rfl rfl rfl rfl rfl (sltC_one _) rfl) rfl rfl fun _ hp st => ?_
          simp only [List.set_cons_zero, List.set_cons_succ] at st
          refine XR_a (op_assign rfl) rfl rfl ?_
          refine XR_nil ?_
          refine X_blk ?_
          refine X_reg ?_
          refine XR_a (op_move rfl) rfl rfl ?_
          first | refine XR_a (op_addN (n := 512) rfl rfl (by simp only [inK]; omega)) rfl rfl ?_ | refine XR_a (op_addI rfl rfl (by simp only [inK]; omega)) rfl rfl ?_ | refine XR_a (op_add rfl rfl) rfl rfl ?_
          refine XR_a (op_assign rfl) rfl rfl ?_
          refine XR_nil ?_
          rw [if_pos ⟨by omega, .inl (by omega)⟩] at hstep
          exact X_again (i + 1, T.1, 0) (.cons rfl (.cons rfl (.cons rfl (.cons rfl (.cons rfl (.cons rfl (.nil _))))))) ⟨st.tail, hnext _ hstep⟩ (by simp only; omega)
        · first | refine XR_a (op_field0 rfl rfl) rfl rfl ?_ | refine XR_a (op_fieldn rfl rfl) rfl rfl ?_
          refine XR_a (op_ld (by first | assumption | exact st.cell 0 rfl rfl | exact st.cell 1 rfl rfl | exact st.cell 2 rfl rfl | exact st.cell 3 rfl rfl) rfl rfl rfl) rfl rfl ?_
          first | refine XR_a (op_field0 rfl rfl) rfl rfl ?_ | refine XR_a (op_fieldn rfl rfl) rfl rfl ?_
          refine XR_a (op_ld (by first | assumption | exact st.cell 0 rfl rfl | exact st.cell 1 rfl rfl | exact st.cell 2 rfl rfl | exact st.cell 3 rfl rfl) rfl rfl rfl) rfl rfl ?_
          refine XR_a (op_gtr rfl rfl) rfl rfl ?_
          refine XR_a (op_pick_f rfl rfl) rfl rfl ?_
          refine XR_a (op_pick_t rfl rfl) rfl rfl ?_
          refine XR_nil ?_
          refine X_if rfl (fun h => ?_) (fun h => ?_)
          · refine X_reg ?_
            refine XR_a (op_ldA (st.cells 0 rfl) rfl rfl rfl rfl) rfl rfl ?_
            refine XR_wn (opl_store_whole (us := sltC T.1) st 1 rfl rfl rfl rfl rfl (sltC_one _) rfl) rfl rfl fun _ hp st => ?_
            simp only [List.set_cons_zero, List.set_cons_succ] at st
            refine XR_a (op_assign rfl) rfl rfl ?_
            refine XR_nil ?_
            refine X_blk ?_
            refine X_reg ?_
            refine XR_a (op_move rfl) rfl rfl ?_
            first | refine XR_a (op_addN (n := 512) rfl rfl (by simp only [inK]; omega)) rfl rfl ?_ | refine XR_a (op_addI rfl rfl (by simp only [inK]; omega)) rfl rfl ?_ | refine XR_a (op_add rfl rfl) rfl rfl ?_
            refine XR_a (op_assign rfl) rfl rfl ?_
            refine XR_nil ?_
            rw [if_pos ⟨by omega, .inr (by omega)⟩] at hstep
            exact X_again (i + 1, T.1, 0) (.cons rfl (.cons rfl (.cons rfl (.cons rfl (.cons rfl (.cons rfl (.nil _))))))) ⟨st.tail, hnext _ hstep⟩ (by simp only; omega)
          · refine X_skip ?_
            refine X_blk ?_
            refine X_reg ?_
            refine XR_a (op_move rfl) rfl rfl ?_
            first | refine XR_a (op_addN (n := 512) rfl rfl (by simp only [inK]; omega)) rfl rfl ?_ | refine XR_a (op_addI rfl rfl (by simp only [inK]; omega)) rfl rfl ?_ | refine XR_a (op_add rfl rfl) rfl rfl ?_
            refine XR_a (op_assign rfl) rfl rfl ?_
            refine XR_nil ?_
            rw [if_neg (by omega)] at hstep
            exact X_again (i + 1, o, e) (.cons rfl (.cons rfl (.cons rfl (.cons rfl (.cons rfl (.cons rfl (.nil _))))))) ⟨st.tail, hnext _ hstep⟩ (by simp only; omega)
      · refine XR_no rfl rfl ?_
        refine XR_no rfl rfl ?_
        refine XR_no rfl rfl ?_
        refine XR_no rfl rfl ?_
        refine XR_no rfl rfl ?_
        refine XR_no rfl rfl ?_
        refine XR_no rfl rfl ?_
        refine XR_no rfl rfl ?_
        refine XR_no rfl rfl ?_
        refine XR_a (op_pick_f rfl rfl) rfl rfl ?_
        refine XR_nil ?_
        refine X_else rfl ?_
        refine X_skip ?_
        refine X_blk ?_
        refine X_reg ?_
        refine XR_a (op_move rfl) rfl rfl ?_
        first | refine XR_a (op_addN (n := 512) rfl rfl (by simp only [inK]; omega)) rfl rfl ?_ | refine XR_a (op_addI rfl rfl (by simp only [inK]; omega)) rfl rfl ?_ | refine XR_a (op_add rfl rfl) rfl rfl ?_
        refine XR_a (op_assign rfl) rfl rfl ?_
        refine XR_nil ?_
        rw [if_neg (fun hh => h (by omega))] at hstep
        exact X_again (i + 1, o, e) (.cons rfl (.cons rfl (.cons rfl (.cons rfl (.cons rfl (.cons rfl (.nil _))))))) ⟨st.tail, hnext _ hstep⟩ (by simp only; omega)
    · refine X_exit rfl ?_
      refine X_seq ?_
      refine X_reg ?_
      obtain ⟨rfl, ho2⟩ : i = 2 ∧ o2 = (o, e) := by
        refine ⟨by omega, ?_⟩
        rcases hi with ⟨rfl, hh⟩ | ⟨rfl, hh⟩ | ⟨rfl, hh⟩
        · omega
        · omega
        · exact hh.symm
      refine XR_a (op_ldA (st.cells 0 rfl) rfl rfl rfl rfl) rfl rfl ?_
      refine XR_a (op_move rfl) rfl rfl ?_
      refine XR_wn (opl_store_whole (us := sltC o) st 1 rfl rfl rfl rfl rfl (sltC_one _) rfl) rfl rfl fun _ hp st => ?_
      simp only [List.set_cons_zero, List.set_cons_succ] at st
      refine XR_a (op_assign rfl) rfl rfl ?_
      refine XR_nil ?_
      refine X_ret (.cons (RV_agg (vs := sltC o) rfl rfl rfl (st.cells 1 rfl)) (.cons (.tmp rfl) .nil)) ?_
      rw [ho2]
      exact ⟨rfl, st.low⟩
  · refine XR_no rfl rfl ?_
    refine XR_no rfl rfl ?_
    refine XR_no rfl rfl ?_
    refine XR_no rfl rfl ?_
    refine XR_no rfl rfl ?_
    refine XR_a (op_pick_f rfl rfl) rfl rfl ?_
    refine XR_nil ?_
    refine X_else rfl ?_
    refine X_exit rfl ?_
    refine X_seq ?_
    refine X_reg ?_
    obtain ⟨rfl, ho2⟩ : i = 2 ∧ o2 = (o, e) := by
      refine ⟨by omega, ?_⟩
      rcases hi with ⟨rfl, hh⟩ | ⟨rfl, hh⟩ | ⟨rfl, hh⟩
      · omega
      · omega
      · exact hh.symm
    refine XR_a (op_ldA (st.cells 0 rfl) rfl rfl rfl rfl) rfl rfl ?_
    refine XR_a (op_move rfl) rfl rfl ?_
    refine XR_wn (opl_store_whole (us := sltC o) st 1 rfl rfl rfl rfl rfl (sltC_one _) rfl) rfl rfl fun _ hp st => ?_
    simp only [List.set_cons_zero, List.set_cons_succ] at st
    refine XR_a (op_assign rfl) rfl rfl ?_
    refine XR_nil ?_
    refine X_ret (.cons (RV_agg (vs := sltC o) rfl rfl rfl (st.cells 1 rfl)) (.cons (.tmp rfl) .nil)) ?_
    rw [ho2]
    exact ⟨rfl, st.low⟩
end Go.Bn
