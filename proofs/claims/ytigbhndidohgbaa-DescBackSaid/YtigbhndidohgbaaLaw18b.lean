/- The laws DescFlips and DescBack come to true. -/
import Derived.Test.YtigbhndidohgbaaLaw18
import Derived.Test.YtigbhndidohgbaaCodec
import Derived.Test.YtigbhndidohgbaaPStream
import Derived.Test.YtigbhndidohgbaaFlip
set_option linter.unusedVariables false
set_option linter.unusedSimpArgs false
set_option maxHeartbeats 4000000
set_option maxRecDepth 20000
namespace Go.Bn
open Go Proofs

theorem rows_len {rs : List BR} {K : Nat} (h : ∀ (j : Nat) (hj : j < rs.length), (rs[j]).l.length ≤ K) : (rs.map BR.l).flatten.length ≤ K * rs.length := by
  induction rs with
  | nil => simp
  | cons b r ih =>
    have h0 := h 0 (by simp)
    have h1 := ih fun j hj => h (j + 1) (by simpa using hj)
    simp only [List.map_cons, List.flatten_cons, List.length_append, List.length_cons, List.getElem_cons_zero] at h0 ⊢
    rw [Nat.mul_add]; omega
theorem flip_bytes_iff (d : Dsc) (hd : d.right) (hs : 0 ≤ d.sum ∧ d.sum < 4294967296) (at_ bits : Nat) (hb : bits < 4294967296) : (dscTake (flipK d.bytes at_ bits 32)).2 = 0 ↔ d.bytes = flipK d.bytes at_ bits 32 := by
  constructor
  · intro h
    by_cases e : flipK d.bytes at_ bits 32 = d.bytes
    · exact e.symm
    · exact absurd h (desc_spoilt d at_ bits hb e)
  · intro e
    have := dscTake_bytes d hd hs []
    rw [List.append_nil] at this
    rw [← e, this]

theorem descFlips_ret {m c bits : Nat} {at_ : Int} {A : Option Addr} {rs : List BR} {h0 : Heap} (hr : Rd h0 A (rs.map BR.v)) (hl : rs.length = m) (hok : ∀ b ∈ rs, b.ok h0) (hb : bits < 4294967296) :
    Ret Try.prog 14 [.slice A m c, .int .i64 at_, .int .u32 (bits : Int)] h0 fun v h' => v = .bool true ∧ Ext h0 h' := by
  refine ret_of_X Try.func14 rfl rfl fun w0 hw0 => ?_
  simp only [argE, Nat.zero_add, Nat.reduceAdd]
  refine X_seq ?_
  refine X_reg ?_
  refine XR_a (op_assign rfl) rfl rfl ?_
  refine XR_nil ?_
  refine X_seq ?_
  refine X_seq ?_
  refine X_reg ?_
  refine XR_a (op_move rfl) rfl rfl ?_
  refine XR_a (op_len rfl rfl rfl) rfl rfl ?_
  refine XR_a (op_gtr rfl rfl) rfl rfl ?_
  refine XR_a (op_move rfl) rfl rfl ?_
  refine XR_if 22 rfl (fun h => ?_) (fun h => ?_)
  · refine XR_no rfl rfl ?_
    refine XR_no rfl rfl ?_
    refine XR_a (op_pick_t rfl rfl) rfl rfl ?_
    refine XR_a (op_move rfl) rfl rfl ?_
    refine XR_no rfl rfl ?_
    refine XR_no rfl rfl ?_
    refine XR_a (op_pick_t rfl rfl) rfl rfl ?_
    refine XR_nil ?_
    refine X_then rfl ?_
    refine X_seq ?_
    refine X_reg ?_
    refine XR_wa (opl_call (lives18 _) rfl (by kernel_rfl)) rfl rfl rfl ?_
    rintro _ hp ⟨rfl, hx⟩
    refine XR_a (op_assign rfl) rfl rfl ?_
    refine XR_nil ?_
    refine X_ret (.cons (.tmp rfl) .nil) ?_
    exact ⟨rfl, hx⟩
  · refine XR_a (op_move rfl) rfl rfl ?_
    refine XR_a (op_lss rfl rfl) rfl rfl ?_
    refine XR_a (op_pick_f rfl rfl) rfl rfl ?_
    refine XR_a (op_move rfl) rfl rfl ?_
    refine XR_if 26 rfl (fun h => ?_) (fun h => ?_)
    · refine XR_no rfl rfl ?_
      refine XR_no rfl rfl ?_
      refine XR_a (op_pick_t rfl rfl) rfl rfl ?_
      refine XR_nil ?_
      refine X_then rfl ?_
      refine X_seq ?_
      refine X_reg ?_
      refine XR_wa (opl_call (lives18 _) rfl (by kernel_rfl)) rfl rfl rfl ?_
      rintro _ hp ⟨rfl, hx⟩
      refine XR_a (op_assign rfl) rfl rfl ?_
      refine XR_nil ?_
      refine X_ret (.cons (.tmp rfl) .nil) ?_
      exact ⟨rfl, hx⟩
    · refine XR_a (op_move rfl) rfl rfl ?_
      refine XR_a (op_gtr rfl rfl) rfl rfl ?_
      refine XR_a (op_pick_f rfl rfl) rfl rfl ?_
      refine XR_nil ?_
      refine X_if rfl (fun h => ?_) (fun h => ?_)
      · refine X_seq ?_
        refine X_reg ?_
        refine XR_wa (opl_call (lives18 _) rfl (by kernel_rfl)) rfl rfl rfl ?_
        rintro _ hp ⟨rfl, hx⟩
        refine XR_a (op_assign rfl) rfl rfl ?_
        refine XR_nil ?_
        refine X_ret (.cons (.tmp rfl) .nil) ?_
        exact ⟨rfl, hx⟩
      · refine X_skip ?_
        refine X_seq ?_
        refine X_seq ?_
        refine X_reg ?_
        refine XR_a (op_assign rfl) rfl rfl ?_
        refine XR_nil ?_
        refine X_block ?_
        obtain ⟨q, rfl⟩ : ∃ q : Nat, at_ = q := ⟨at_.toNat, by omega⟩
        refine X_loop (fun i => m - i) (fun i => [(0, .slice A m c), (1, .int .i64 (q : Int)), (2, .int .u32 (bits : Int)), (7, .int .i64 (i : Int))])
          (fun (i : Nat) hp => h0 = hp ∧ i ≤ m ∧ ∀ (j : Nat) (hj : j < rs.length), j < i → (rs[j]).l.length ≤ 1000)
          0 (.cons rfl (.cons rfl (.cons rfl (.cons rfl (.nil _))))) ⟨rfl, by omega, fun j _ hj => by omega⟩ ?_
        rintro i hp ⟨rfl, hi, hall⟩
        refine X_seq ?_
        refine X_seq ?_
        refine X_reg ?_
        refine XR_a (op_move rfl) rfl rfl ?_
        refine XR_a (op_move rfl) rfl rfl ?_
        refine XR_a (op_len rfl rfl rfl) rfl rfl ?_
        refine XR_a (op_lss rfl rfl) rfl rfl ?_
        refine XR_nil ?_
        refine X_if rfl (fun h => ?_) (fun h => ?_)
        · have him : i < rs.length := by omega
          obtain ⟨gb, o, rfl, hc⟩ := hr.at_ (by rw [List.length_map]; omega)
          have hci := hc i (BR.v rs[i]) (by simp [him])
          have hbo := hok rs[i] (List.getElem_mem him)
          have hbl := hbo.len
          refine X_skip ?_
          refine X_seq ?_
          refine X_block ?_
          refine X_seq ?_
          refine X_reg ?_
          refine XR_a (op_move rfl) rfl rfl ?_
          refine XR_a (op_move rfl) rfl rfl ?_
          first | refine XR_a (op_index1 rfl rfl rfl (by omega)) rfl rfl ?_ | refine XR_a (op_index rfl rfl rfl (by omega)) rfl rfl ?_
          refine XR_a (op_ld (hci) rfl rfl rfl) rfl rfl ?_
          refine XR_a (op_len rfl rfl rfl) rfl rfl ?_
          refine XR_a (op_gtr rfl rfl) rfl rfl ?_
          refine XR_nil ?_
          refine X_if rfl (fun h => ?_) (fun h => ?_)
          · refine X_seq ?_
            refine X_reg ?_
            refine XR_wa (opl_call (lives18 _) rfl (by kernel_rfl)) rfl rfl rfl ?_
            rintro _ hp ⟨rfl, hx⟩
            refine XR_a (op_assign rfl) rfl rfl ?_
            refine XR_nil ?_
            refine X_ret (.cons (.tmp rfl) .nil) ?_
            exact ⟨rfl, hx⟩
          · refine X_skip ?_
            refine X_blk ?_
            refine X_reg ?_
            refine XR_a (op_move rfl) rfl rfl ?_
            first | refine XR_a (op_addN (n := 1) rfl rfl (by simp only [inK]; omega)) rfl rfl ?_ | refine XR_a (op_addI rfl rfl (by simp only [inK]; omega)) rfl rfl ?_ | refine XR_a (op_add rfl rfl) rfl rfl ?_
            refine XR_a (op_assign rfl) rfl rfl ?_
            refine XR_nil ?_
            refine X_again (i + 1) (.cons rfl (.cons rfl (.cons rfl (.cons rfl (.nil _))))) ⟨rfl, by omega, fun j hj hji => ?_⟩ (by omega)
            rcases Nat.lt_or_ge j i with h9 | h9
            · exact hall j hj h9
            · obtain rfl : j = i := by omega
              omega
        · obtain rfl : i = m := by omega
          have hlen := rows_len (K := 1000) fun j hj => hall j hj (by omega)
          have hm20 : i ≤ 20 := by omega
          have htot : (rs.map BR.l).flatten.length ≤ 20000 := by omega
          have hstream := streamN_ok (rs.map BR.l) 0 [] (by omega)
          rw [List.nil_append] at hstream
          obtain ⟨hof, hright⟩ := dscOf_stream (rs.map BR.l) (by omega)
          have hal := streamB_len (rs.map BR.l)
          have hsl := sumN_lt (streamB (rs.map BR.l))
          have hff := fits_flip (streamB (rs.map BR.l)) (rs.map BR.l).flatten.length q bits hb hof
          generalize (rs.map BR.l).flatten.length = tot at *
          generalize streamB (rs.map BR.l) = area at *
          have hbf := flip_bytes_iff (Dsc.mk tot area.length (sumN area : Nat)) hright ⟨by simp only; omega, by simp only; omega⟩ q bits hb
          have hbl := (Dsc.mk (tot : Int) area.length (sumN area : Nat)).bytes_length
          refine X_exit rfl ?_
          refine X_seq ?_
          refine X_reg ?_
          refine XR_wa (opl_call (make_spec h0) rfl (by kernel_rfl)) rfl rfl rfl ?_
          rintro _ hp ⟨rfl, hx⟩
          have st := (St.start h0).ext hx
          refine XR_wa (opl_new (zs := List.replicate 256 (.int .u32 0)) (by kernel_rfl)) rfl rfl rfl ?_
          rintro _ hp ⟨tp, rfl, hnew⟩
          replace st := st.new hnew
          refine XR_wn (opl_store_whole st 0 rfl rfl rfl rfl (by rw [tabV_length]; rfl) tabV_one (by rw [tabV_length, List.length_replicate])) rfl rfl fun _ hp st => ?_
          simp only [List.set_cons_zero, List.set_cons_succ] at st
          refine XR_nil ?_
          refine X_seq ?_
          refine X_reg ?_
          refine XR_a (op_move rfl) rfl rfl ?_
          refine XR_wa (opl_call (stream_spec (hr.ext st.low) hl (fun b hb => (hok b hb).ext st.low) (by omega)) rfl (by kernel_rfl)) rfl rfl rfl ?_
          rintro _ hp ⟨v1, rfl, st2⟩
          rw [hstream] at st2 ⊢
          replace st := st.join st2
          simp only [List.cons_append, List.nil_append] at st
          obtain ⟨A1, n1, c1, rfl, hlen1, hnc1, _, hrd1⟩ := st.row 0 rfl
          obtain rfl : n1 = area.length := by rw [List.length_map] at hlen1; omega
          refine XR_a (op_move rfl) rfl rfl ?_
          refine XR_a (op_extract rfl rfl) rfl rfl ?_
          refine XR_a (op_extract rfl rfl) rfl rfl ?_
          refine XR_a (op_assign rfl) rfl rfl ?_
          refine XR_a (op_assign rfl) rfl rfl ?_
          refine XR_nil ?_
          refine X_seq ?_
          refine X_reg ?_
          refine XR_a (op_move rfl) rfl rfl ?_
          refine XR_wa (opl_call (dof_spec (st.tab 1 rfl) hrd1 rfl (by omega) hnc1) rfl (by kernel_rfl)) rfl rfl rfl ?_
          rintro _ hp ⟨rfl, hx3⟩
          replace st := st.ext hx3
          rw [hof]
          refine XR_a (op_move rfl) rfl rfl ?_
          refine XR_a (op_extract rfl rfl) rfl rfl ?_
          refine XR_a (op_extract rfl rfl) rfl rfl ?_
          refine XR_wa (opl_new rfl) rfl rfl rfl ?_
          rintro _ hp ⟨p28, rfl, hnew⟩
          replace st := st.new hnew
          refine XR_wn (opl_store_whole (us := dscC ⟨tot, area.length, (sumN area : Nat)⟩) st 0 rfl rfl rfl rfl rfl (dscC_one _) rfl) rfl rfl fun _ hp st => ?_
          simp only [List.set_cons_zero, List.set_cons_succ] at st
          refine XR_a (op_assign rfl) rfl rfl ?_
          refine XR_nil ?_
          refine X_seq ?_
          refine X_reg ?_
          refine XR_a (op_ldA (st.cells 0 rfl) rfl rfl rfl rfl) rfl rfl ?_
          refine XR_wa (opl_call (dput_ok (st.tab 2 rfl) hright hsl) rfl (by kernel_rfl)) rfl rfl rfl ?_
          rintro _ hp ⟨v2, rfl, st2⟩
          replace st := st.join st2
          simp only [List.cons_append, List.nil_append] at st
          obtain ⟨A2, n2, c2, rfl, hlen2, hnc2, _, hrd2⟩ := st.row 0 rfl
          obtain rfl : n2 = 20 := by rw [List.length_map, hbl] at hlen2; omega
          refine XR_a (op_move rfl) rfl rfl ?_
          refine XR_a (op_extract rfl rfl) rfl rfl ?_
          refine XR_a (op_extract rfl rfl) rfl rfl ?_
          refine XR_a (op_assign rfl) rfl rfl ?_
          refine XR_a (op_assign rfl) rfl rfl ?_
          refine XR_nil ?_
          refine X_seq ?_
          refine X_seq ?_
          refine X_reg ?_
          refine XR_a (op_move rfl) rfl rfl ?_
          refine XR_a (op_neq rfl rfl) rfl rfl ?_
          refine XR_as (.bool false) (rfl) ?_
          refine XR_a (op_move rfl) rfl rfl ?_
          refine XR_a (op_move rfl) rfl rfl ?_
          refine XR_a (op_neq rfl rfl) rfl rfl ?_
          refine XR_as (.bool false) (rfl) ?_
          refine XR_a (op_pick_f rfl rfl) rfl rfl ?_
          refine XR_nil ?_
          refine X_else rfl ?_
          refine X_skip ?_
          refine X_seq ?_
          refine X_reg ?_
          refine XR_a (op_move rfl) rfl rfl ?_
          refine XR_a (op_move rfl) rfl rfl ?_
          refine XR_a (op_move rfl) rfl rfl ?_
          refine XR_wa (opl_call (flip_ref (st.rdS 2 rfl).2 rfl (by omega) hb (by omega)) rfl (by kernel_rfl)) rfl rfl rfl ?_
          rintro v3 hp st3
          replace st := st.join st3
          simp only [List.cons_append, List.nil_append] at st
          obtain ⟨A3, n3, c3, rfl, hlen3, hnc3, _, _⟩ := st.row 0 rfl
          obtain rfl : n3 = area.length := by rw [List.length_map, flipK_length] at hlen3; omega
          refine XR_a (op_move rfl) rfl rfl ?_
          refine XR_a (op_move rfl) rfl rfl ?_
          refine XR_a (op_move rfl) rfl rfl ?_
          refine XR_wa (opl_call (flip_ref (st.rdS 1 rfl).2 hbl (by omega) hb (by omega)) rfl (by kernel_rfl)) rfl rfl rfl ?_
          rintro v4 hp st4
          replace st := st.join st4
          simp only [List.cons_append, List.nil_append] at st
          obtain ⟨A4, n4, c4, rfl, hlen4, hnc4, _, _⟩ := st.row 0 rfl
          obtain rfl : n4 = 20 := by rw [List.length_map, flipK_length, hbl] at hlen4; omega
          have hfa : (flipK area q bits 32).length = area.length := flipK_length _ _ _ _
          have hfb : (flipK (Dsc.mk (tot : Int) area.length (sumN area : Nat)).bytes q bits 32).length = 20 := by rw [flipK_length, hbl]
          generalize flipK area q bits 32 = area' at *
          generalize flipK (Dsc.mk (tot : Int) area.length (sumN area : Nat)).bytes q bits 32 = bytes' at *
          refine XR_a (op_assign rfl) rfl rfl ?_
          refine XR_a (op_assign rfl) rfl rfl ?_
          refine XR_nil ?_
          refine X_seq ?_
          refine X_reg ?_
          refine XR_a (op_move rfl) rfl rfl ?_
          refine XR_wa (opl_call (dtake_spec (at_ := 0) (st.tab 5 rfl) (st.rdS 0 rfl).2 hfb (by omega) hnc4) rfl (by kernel_rfl)) rfl rfl rfl ?_
          rintro _ hp ⟨rfl, hx5⟩
          replace st := st.ext hx5
          rw [dscTakeAt_zero]
          obtain ⟨T, hT⟩ : ∃ T, dscTake bytes' = T := ⟨_, rfl⟩
          rw [hT] at hbf ⊢
          refine XR_a (op_move rfl) rfl rfl ?_
          refine XR_a (op_extract rfl rfl) rfl rfl ?_
          refine XR_a (op_extract rfl rfl) rfl rfl ?_
          refine XR_wa (opl_new rfl) rfl rfl rfl ?_
          rintro _ hp ⟨p38, rfl, hnew⟩
          replace st := st.new hnew
          refine XR_wn (opl_store_whole (us := dscC T.1) st 0 rfl rfl rfl rfl rfl (dscC_one _) rfl) rfl rfl fun _ hp st => ?_
          simp only [List.set_cons_zero, List.set_cons_succ] at st
          refine XR_a (op_assign rfl) rfl rfl ?_
          refine XR_nil ?_
          refine X_seq ?_
          refine X_reg ?_
          refine XR_a (op_ldA (st.cells 4 rfl) rfl rfl rfl rfl) rfl rfl ?_
          refine XR_a (op_move rfl) rfl rfl ?_
          refine XR_wa (opl_call (dfits_spec (st.tab 6 rfl) (st.rdS 2 rfl).2 hfa (by omega) hnc3) rfl (by kernel_rfl)) rfl rfl rfl ?_
          rintro _ hp ⟨rfl, hx6⟩
          replace st := st.ext hx6
          refine XR_a (op_move rfl) rfl rfl ?_
          refine XR_a (op_move rfl) rfl rfl ?_
          refine XR_wa (opl_call (same_ref (st.rdS 5 rfl).2 rfl (st.rdS 2 rfl).2 hfa) rfl (by kernel_rfl)) rfl rfl rfl ?_
          rintro _ _ ⟨rfl, rfl⟩
          refine XR_a (op_eqlB rfl rfl rfl) rfl rfl ?_
          refine XR_as (.bool true) (congrArg Value.bool (decide_eq_true (decide_eq_decide.2 hff))) ?_
          refine XR_a (op_move rfl) rfl rfl ?_
          refine XR_a (op_move rfl) rfl rfl ?_
          refine XR_a (op_eql rfl rfl) rfl rfl ?_
          refine XR_a (op_move rfl) rfl rfl ?_
          refine XR_a (op_move rfl) rfl rfl ?_
          refine XR_wa (opl_call (same_ref (st.rdS 3 rfl).2 hbl (st.rdS 1 rfl).2 hfb) rfl (by kernel_rfl)) rfl rfl rfl ?_
          rintro _ _ ⟨rfl, rfl⟩
          refine XR_a (op_eqlB rfl rfl rfl) rfl rfl ?_
          refine XR_as (.bool true) (congrArg Value.bool (decide_eq_true (decide_eq_decide.2 hbf))) ?_
          refine XR_a (op_pick_t rfl rfl) rfl rfl ?_
          refine XR_a (op_move rfl) rfl rfl ?_
          refine XR_wa (opl_call (lives18 _) rfl (by kernel_rfl)) rfl rfl rfl ?_
          rintro _ hp ⟨rfl, hx⟩
          refine XR_a (op_pick_t rfl rfl) rfl rfl ?_
          refine XR_a (op_assign rfl) rfl rfl ?_
          refine XR_nil ?_
          refine X_ret (.cons (.tmp rfl) .nil) ?_
          exact ⟨rfl, st.low.trans (hx.mono st.low.size)⟩

theorem descBack_ret {m c m2 cc2 : Nat} {A B : Option Addr} {rs : List BR} {z : List UInt8} {h0 : Heap} (hr : Rd h0 A (rs.map BR.v)) (hl : rs.length = m) (hok : ∀ b ∈ rs, b.ok h0) (hz : Rd h0 B (z.map byteV)) (hzl : z.length = m2) (hzc : m2 ≤ cc2) :
    Ret Try.prog 15 [.slice A m c, .slice B m2 cc2] h0 fun v h' => v = .bool true ∧ Ext h0 h' := by
  refine ret_of_X Try.func15 rfl rfl fun w0 hw0 => ?_
  simp only [argE, Nat.zero_add, Nat.reduceAdd]
  refine X_seq ?_
  refine X_reg ?_
  refine XR_a (op_assign rfl) rfl rfl ?_
  refine XR_nil ?_
  refine X_seq ?_
  refine X_seq ?_
  refine X_reg ?_
  refine XR_a (op_move rfl) rfl rfl ?_
  refine XR_a (op_len rfl rfl rfl) rfl rfl ?_
  refine XR_a (op_gtr rfl rfl) rfl rfl ?_
  refine XR_a (op_move rfl) rfl rfl ?_
  refine XR_if 24 rfl (fun h => ?_) (fun h => ?_)
  · refine XR_no rfl rfl ?_
    refine XR_no rfl rfl ?_
    refine XR_no rfl rfl ?_
    refine XR_a (op_pick_t rfl rfl) rfl rfl ?_
    refine XR_nil ?_
    refine X_then rfl ?_
    refine X_seq ?_
    refine X_reg ?_
    refine XR_wa (opl_call (lives18 _) rfl (by kernel_rfl)) rfl rfl rfl ?_
    rintro _ hp ⟨rfl, hx⟩
    refine XR_a (op_assign rfl) rfl rfl ?_
    refine XR_nil ?_
    refine X_ret (.cons (.tmp rfl) .nil) ?_
    exact ⟨rfl, hx⟩
  · refine XR_a (op_move rfl) rfl rfl ?_
    refine XR_a (op_len rfl rfl rfl) rfl rfl ?_
    refine XR_a (op_gtr rfl rfl) rfl rfl ?_
    refine XR_a (op_pick_f rfl rfl) rfl rfl ?_
    refine XR_nil ?_
    refine X_if rfl (fun h => ?_) (fun h => ?_)
    · refine X_seq ?_
      refine X_reg ?_
      refine XR_wa (opl_call (lives18 _) rfl (by kernel_rfl)) rfl rfl rfl ?_
      rintro _ hp ⟨rfl, hx⟩
      refine XR_a (op_assign rfl) rfl rfl ?_
      refine XR_nil ?_
      refine X_ret (.cons (.tmp rfl) .nil) ?_
      exact ⟨rfl, hx⟩
    · refine X_skip ?_
      refine X_seq ?_
      refine X_reg ?_
      refine XR_a (op_assign rfl) rfl rfl ?_
      refine XR_nil ?_
      refine X_seq ?_
      refine X_seq ?_
      refine X_reg ?_
      refine XR_a (op_assign rfl) rfl rfl ?_
      refine XR_nil ?_
      refine X_block ?_
      refine X_loop (fun i => m - i) (fun i => [(0, .slice A m c), (1, .slice B m2 cc2), (5, .int .i64 ((((rs.take i).map BR.l).flatten.length : Nat) : Int)), (6, .int .i64 (i : Int))])
        (fun (i : Nat) hp => h0 = hp ∧ i ≤ m ∧ ∀ (j : Nat) (hj : j < rs.length), j < i → (rs[j]).l.length ≤ 3000)
        0 (.cons rfl (.cons rfl (.cons rfl (.cons rfl (.nil _))))) ⟨rfl, by omega, fun j _ hj => by omega⟩ ?_
      rintro i hp ⟨rfl, hi, hall⟩
      have hlen := rows_len (rs := rs.take i) (K := 3000) fun j hj => by
        rw [List.getElem_take]
        exact hall j (by rw [List.length_take] at hj; omega) (by rw [List.length_take] at hj; omega)
      rw [List.length_take, hl, Nat.min_eq_left hi] at hlen
      refine X_seq ?_
      refine X_seq ?_
      refine X_reg ?_
      refine XR_a (op_move rfl) rfl rfl ?_
      refine XR_a (op_move rfl) rfl rfl ?_
      refine XR_a (op_len rfl rfl rfl) rfl rfl ?_
      refine XR_a (op_lss rfl rfl) rfl rfl ?_
      refine XR_nil ?_
      refine X_if rfl (fun h => ?_) (fun h => ?_)
      · have him : i < rs.length := by omega
        obtain ⟨gb, o, rfl, hc⟩ := hr.at_ (by rw [List.length_map]; omega)
        have hci := hc i (BR.v rs[i]) (by simp [him])
        have hbo := hok rs[i] (List.getElem_mem him)
        have hbl := hbo.len
        have htk : ((rs.take (i + 1)).map BR.l).flatten.length = ((rs.take i).map BR.l).flatten.length + (rs[i]).l.length := by
          rw [List.take_succ_eq_append_getElem him, List.map_append, List.flatten_append, List.length_append]; simp
        refine X_skip ?_
        refine X_seq ?_
        refine X_block ?_
        refine X_seq ?_
        refine X_seq ?_
        refine X_reg ?_
        refine XR_a (op_move rfl) rfl rfl ?_
        refine XR_a (op_move rfl) rfl rfl ?_
        first | refine XR_a (op_index1 rfl rfl rfl (by omega)) rfl rfl ?_ | refine XR_a (op_index rfl rfl rfl (by omega)) rfl rfl ?_
        refine XR_a (op_ld (hci) rfl rfl rfl) rfl rfl ?_
        refine XR_a (op_len rfl rfl rfl) rfl rfl ?_
        refine XR_a (op_gtr rfl rfl) rfl rfl ?_
        refine XR_nil ?_
        refine X_if rfl (fun h => ?_) (fun h => ?_)
        · refine X_seq ?_
          refine X_reg ?_
          refine XR_wa (opl_call (lives18 _) rfl (by kernel_rfl)) rfl rfl rfl ?_
          rintro _ hp ⟨rfl, hx⟩
          refine XR_a (op_assign rfl) rfl rfl ?_
          refine XR_nil ?_
          refine X_ret (.cons (.tmp rfl) .nil) ?_
          exact ⟨rfl, hx⟩
        · refine X_skip ?_
          refine X_reg ?_
          refine XR_a (op_move rfl) rfl rfl ?_
          refine XR_a (op_move rfl) rfl rfl ?_
          refine XR_a (op_move rfl) rfl rfl ?_
          first | refine XR_a (op_index1 rfl rfl rfl (by omega)) rfl rfl ?_ | refine XR_a (op_index rfl rfl rfl (by omega)) rfl rfl ?_
          refine XR_a (op_ld (hci) rfl rfl rfl) rfl rfl ?_
          refine XR_a (op_len rfl rfl rfl) rfl rfl ?_
          first | refine XR_a (op_addN rfl rfl (by simp only [inK]; omega)) rfl rfl ?_ | refine XR_a (op_addI rfl rfl (by simp only [inK]; omega)) rfl rfl ?_ | refine XR_a (op_add rfl rfl) rfl rfl ?_
          refine XR_a (op_assign rfl) rfl rfl ?_
          refine XR_nil ?_
          refine X_blk ?_
          refine X_reg ?_
          refine XR_a (op_move rfl) rfl rfl ?_
          first | refine XR_a (op_addN (n := 1) rfl rfl (by simp only [inK]; omega)) rfl rfl ?_ | refine XR_a (op_addI rfl rfl (by simp only [inK]; omega)) rfl rfl ?_ | refine XR_a (op_add rfl rfl) rfl rfl ?_
          refine XR_a (op_assign rfl) rfl rfl ?_
          refine XR_nil ?_
          refine X_again (i + 1) (.cons rfl (.cons rfl (.cons (congrArg (fun x : Nat => some (Value.int .i64 (x : Int))) (by rw [htk, hbl])) (.cons rfl (.nil _))))) ⟨rfl, by omega, fun j hj hji => ?_⟩ (by omega)
          rcases Nat.lt_or_ge j i with h9 | h9
          · exact hall j hj h9
          · obtain rfl : j = i := by omega
            omega
      · obtain rfl : i = m := by omega
        have hm20 : i ≤ 20 := by omega
        have hz500 : m2 ≤ 500 := by omega
        rw [List.take_of_length_le (by omega)] at hlen ⊢
        have htot : (rs.map BR.l).flatten.length ≤ 60000 := by omega
        have hstream := streamN_ok (rs.map BR.l) 0 [] (by omega)
        rw [List.nil_append] at hstream
        obtain ⟨hof, hright⟩ := dscOf_stream (rs.map BR.l) (by omega)
        have hal := streamB_len (rs.map BR.l)
        have hsl := sumN_lt (streamB (rs.map BR.l))
        have hpc := pieces_stream (rs.map BR.l)
        have hend := fun w => dscEnd_stream (rs.map BR.l) w
        generalize (rs.map BR.l).flatten = F at *
        obtain ⟨tot, htt⟩ : ∃ tot, F.length = tot := ⟨_, rfl⟩
        rw [htt] at hof hright hal htot
        generalize streamB (rs.map BR.l) = area at *
        have hbl := (Dsc.mk (tot : Int) area.length (sumN area : Nat)).bytes_length
        have htk := dscTakeAt_behind area (Dsc.mk (tot : Int) area.length (sumN area : Nat)) z hright ⟨by simp only; omega, by simp only; omega⟩
        have hend := hend ((Dsc.mk (tot : Int) area.length (sumN area : Nat)).bytes ++ z)
        rw [← List.append_assoc] at hend
        refine X_exit rfl ?_
        refine X_seq ?_
        refine X_reg ?_
        refine XR_wa (opl_call (make_spec h0) rfl (by kernel_rfl)) rfl rfl rfl ?_
        rintro _ hp ⟨rfl, hx⟩
        have st := (St.start h0).ext hx
        refine XR_wa (opl_new (zs := List.replicate 256 (.int .u32 0)) (by kernel_rfl)) rfl rfl rfl ?_
        rintro _ hp ⟨tp, rfl, hnew⟩
        replace st := st.new hnew
        refine XR_wn (opl_store_whole st 0 rfl rfl rfl rfl (by rw [tabV_length]; rfl) tabV_one (by rw [tabV_length, List.length_replicate])) rfl rfl fun _ hp st => ?_
        simp only [List.set_cons_zero, List.set_cons_succ] at st
        refine XR_nil ?_
        refine X_seq ?_
        refine X_reg ?_
        refine XR_a (op_move rfl) rfl rfl ?_
        refine XR_wa (opl_call (stream_spec (hr.ext st.low) hl (fun b hb => (hok b hb).ext st.low) (by omega)) rfl (by kernel_rfl)) rfl rfl rfl ?_
        rintro _ hp ⟨v1, rfl, st2⟩
        rw [hstream] at st2 ⊢
        replace st := st.join st2
        simp only [List.cons_append, List.nil_append] at st
        obtain ⟨A1, n1, c1, rfl, hlen1, hnc1, _, hrd1⟩ := st.row 0 rfl
        obtain rfl : n1 = area.length := by rw [List.length_map] at hlen1; omega
        refine XR_a (op_move rfl) rfl rfl ?_
        refine XR_a (op_extract rfl rfl) rfl rfl ?_
        refine XR_a (op_extract rfl rfl) rfl rfl ?_
        refine XR_a (op_assign rfl) rfl rfl ?_
        refine XR_a (op_assign rfl) rfl rfl ?_
        refine XR_nil ?_
        refine X_seq ?_
        refine X_reg ?_
        refine XR_a (op_move rfl) rfl rfl ?_
        refine XR_wa (opl_call (dof_spec (st.tab 1 rfl) hrd1 rfl (by omega) hnc1) rfl (by kernel_rfl)) rfl rfl rfl ?_
        rintro _ hp ⟨rfl, hx3⟩
        replace st := st.ext hx3
        rw [hof]
        refine XR_a (op_move rfl) rfl rfl ?_
        refine XR_a (op_extract rfl rfl) rfl rfl ?_
        refine XR_a (op_extract rfl rfl) rfl rfl ?_
        refine XR_wa (opl_new rfl) rfl rfl rfl ?_
        rintro _ hp ⟨p28, rfl, hnew⟩
        replace st := st.new hnew
        refine XR_wn (opl_store_whole (us := dscC ⟨tot, area.length, (sumN area : Nat)⟩) st 0 rfl rfl rfl rfl rfl (dscC_one _) rfl) rfl rfl fun _ hp st => ?_
        simp only [List.set_cons_zero, List.set_cons_succ] at st
        refine XR_a (op_assign rfl) rfl rfl ?_
        refine XR_nil ?_
        refine X_seq ?_
        refine X_reg ?_
        refine XR_a (op_ldA (st.cells 0 rfl) rfl rfl rfl rfl) rfl rfl ?_
        refine XR_wa (opl_call (dput_ok (st.tab 2 rfl) hright hsl) rfl (by kernel_rfl)) rfl rfl rfl ?_
        rintro _ hp ⟨v2, rfl, st2⟩
        replace st := st.join st2
        simp only [List.cons_append, List.nil_append] at st
        obtain ⟨A2, n2, c2, rfl, hlen2, hnc2, _, hrd2⟩ := st.row 0 rfl
        obtain rfl : n2 = 20 := by rw [List.length_map, hbl] at hlen2; omega
        refine XR_a (op_move rfl) rfl rfl ?_
        refine XR_a (op_extract rfl rfl) rfl rfl ?_
        refine XR_a (op_extract rfl rfl) rfl rfl ?_
        refine XR_a (op_assign rfl) rfl rfl ?_
        refine XR_a (op_assign rfl) rfl rfl ?_
        refine XR_nil ?_
        refine X_seq ?_
        refine X_seq ?_
        refine X_reg ?_
        refine XR_a (op_move rfl) rfl rfl ?_
        refine XR_a (op_neq rfl rfl) rfl rfl ?_
        refine XR_as (.bool false) (rfl) ?_
        refine XR_a (op_move rfl) rfl rfl ?_
        refine XR_a (op_move rfl) rfl rfl ?_
        refine XR_a (op_neq rfl rfl) rfl rfl ?_
        refine XR_as (.bool false) (rfl) ?_
        refine XR_a (op_pick_f rfl rfl) rfl rfl ?_
        refine XR_a (op_move rfl) rfl rfl ?_
        refine XR_a (op_move rfl) rfl rfl ?_
        refine XR_a (op_neq rfl rfl) rfl rfl ?_
        refine XR_as (.bool false) (rfl) ?_
        refine XR_a (op_pick_f rfl rfl) rfl rfl ?_
        refine XR_a (op_move rfl) rfl rfl ?_
        refine XR_a (op_ldA (st.cells 1 rfl) rfl rfl rfl rfl) rfl rfl ?_
        refine XR_a (op_move rfl) rfl rfl ?_
        refine XR_wa (opl_call (dfits_spec (st.tab 3 rfl) (st.rdS 2 rfl).2 rfl (by omega) hnc1) rfl (by kernel_rfl)) rfl rfl rfl ?_
        rintro _ hp ⟨rfl, hx6⟩
        replace st := st.ext hx6
        refine XR_as (.bool true) (congrArg Value.bool (decide_eq_true hof)) ?_
        first | refine XR_a (op_notd rfl) rfl rfl ?_ | refine XR_a (op_not rfl) rfl rfl ?_
        refine XR_a (op_pick_f rfl rfl) rfl rfl ?_
        refine XR_a (op_move rfl) rfl rfl ?_
        first | refine XR_a (op_field0 rfl rfl) rfl rfl ?_ | refine XR_a (op_fieldn rfl rfl) rfl rfl ?_
        refine XR_a (op_ld (st.cell 1 (i := 0) rfl rfl) rfl rfl rfl) rfl rfl ?_
        refine XR_a (op_move rfl) rfl rfl ?_
        refine XR_a (op_neq rfl rfl) rfl rfl ?_
        refine XR_as (.bool false) (congrArg Value.bool (decide_eq_false (by simp [htt]))) ?_
        refine XR_a (op_pick_f rfl rfl) rfl rfl ?_
        refine XR_nil ?_
        refine X_else rfl ?_
        refine X_skip ?_
        refine X_seq ?_
        refine X_reg ?_
        refine XR_wa (opl_lit0 rfl) rfl rfl rfl ?_
        rintro v hp hnew
        replace st := st.new hnew
        refine XR_a (op_move rfl) rfl rfl ?_
        refine XR_wa (opl_append st 0 rfl ((st.rdS 3 rfl).2) (by simp) (one_bytes _) (by simp; omega) rfl rfl rfl rfl rfl rfl rfl) rfl rfl rfl fun v hp st => ?_
        simp only [List.set_cons_zero, List.set_cons_succ] at st
        rw [List.nil_append] at st
        refine XR_a (op_move rfl) rfl rfl ?_
        refine XR_wa (opl_append st 0 rfl ((st.rdS 1 rfl).2) (by simpa using hbl) (one_bytes _) (by simp; omega) rfl rfl rfl rfl rfl rfl rfl) rfl rfl rfl fun v hp st => ?_
        simp only [List.set_cons_zero, List.set_cons_succ] at st
        rw [← List.map_append] at st
        refine XR_a (op_move rfl) rfl rfl ?_
        refine XR_wa (opl_append st 0 rfl (hz.ext st.low) (by simpa using hzl) (one_bytes _) (by simp; omega) rfl rfl rfl rfl rfl rfl rfl) rfl rfl rfl fun v hp st => ?_
        simp only [List.set_cons_zero, List.set_cons_succ] at st
        rw [← List.map_append] at st
        obtain ⟨A5, n5, c5, rfl, hlen5, hnc5, _, _⟩ := st.row 0 rfl
        have hln : (area ++ (Dsc.mk (tot : Int) area.length (sumN area : Nat)).bytes ++ z).length = n5 := by rw [List.length_map] at hlen5; omega
        have hn5 : n5 ≤ 1000000 := by rw [← hln, List.length_append, List.length_append]; omega
        refine XR_a (op_assign rfl) rfl rfl ?_
        refine XR_nil ?_
        refine X_seq ?_
        refine X_reg ?_
        refine XR_a (op_move rfl) rfl rfl ?_
        refine XR_wa (opl_call (dend_spec (at_ := 0) (st.rdS 0 rfl).2 hln (by omega)) rfl (by kernel_rfl)) rfl rfl rfl ?_
        rintro _ _ ⟨rfl, rfl⟩
        rw [hend]
        refine XR_a (op_move rfl) rfl rfl ?_
        refine XR_a (op_extract rfl rfl) rfl rfl ?_
        refine XR_a (op_extract rfl rfl) rfl rfl ?_
        refine XR_a (op_assign rfl) rfl rfl ?_
        refine XR_a (op_assign rfl) rfl rfl ?_
        refine XR_nil ?_
        refine X_seq ?_
        refine X_reg ?_
        refine XR_a (op_move rfl) rfl rfl ?_
        refine XR_a (op_move rfl) rfl rfl ?_
        refine XR_wa (opl_call (dtake_spec (at_ := area.length) (st.tab 4 rfl) (st.rdS 0 rfl).2 hln (by omega) hnc5) rfl (by kernel_rfl)) rfl rfl rfl ?_
        rintro _ hp ⟨rfl, hx5⟩
        replace st := st.ext hx5
        rw [htk]
        refine XR_a (op_move rfl) rfl rfl ?_
        refine XR_a (op_extract rfl rfl) rfl rfl ?_
        refine XR_a (op_extract rfl rfl) rfl rfl ?_
        refine XR_wa (opl_new rfl) rfl rfl rfl ?_
        rintro _ hp ⟨p38, rfl, hnew⟩
        replace st := st.new hnew
        refine XR_wn (opl_store_whole (us := dscC ⟨tot, area.length, (sumN area : Nat)⟩) st 0 rfl rfl rfl rfl rfl (dscC_one _) rfl) rfl rfl fun _ hp st => ?_
        simp only [List.set_cons_zero, List.set_cons_succ] at st
        refine XR_a (op_assign rfl) rfl rfl ?_
        refine XR_nil ?_
        refine X_seq ?_
        refine X_reg ?_
        refine XR_a (op_move rfl) rfl rfl ?_
        refine XR_wa (opl_call (pieces_ref (st.rdS 4 rfl).2 rfl (by omega) hnc1) rfl (by kernel_rfl)) rfl rfl rfl ?_
        rintro _ hp ⟨v8, rfl, st8⟩
        rw [hpc] at st8 ⊢
        replace st := st.join st8
        simp only [List.cons_append, List.nil_append] at st
        obtain ⟨A8, n8, c8, rfl, hlen8, _, _, _⟩ := st.row 0 rfl
        obtain rfl : n8 = F.length := by rw [List.length_map] at hlen8; omega
        refine XR_a (op_move rfl) rfl rfl ?_
        refine XR_a (op_extract rfl rfl) rfl rfl ?_
        refine XR_a (op_extract rfl rfl) rfl rfl ?_
        refine XR_a (op_assign rfl) rfl rfl ?_
        refine XR_a (op_assign rfl) rfl rfl ?_
        refine XR_nil ?_
        refine X_seq ?_
        refine X_reg ?_
        refine XR_a (op_move rfl) rfl rfl ?_
        refine XR_a (op_eql rfl rfl) rfl rfl ?_
        refine XR_as (.bool true) (rfl) ?_
        refine XR_a (op_move rfl) rfl rfl ?_
        refine XR_a (op_move rfl) rfl rfl ?_
        refine XR_a (op_eql rfl rfl) rfl rfl ?_
        refine XR_as (.bool true) (rfl) ?_
        refine XR_a (op_pick_t rfl rfl) rfl rfl ?_
        refine XR_a (op_move rfl) rfl rfl ?_
        refine XR_a (op_move rfl) rfl rfl ?_
        refine XR_a (op_move rfl) rfl rfl ?_
        refine XR_a (op_len rfl rfl rfl) rfl rfl ?_
        refine XR_a (op_eql rfl rfl) rfl rfl ?_
        refine XR_as (.bool true) (congrArg Value.bool (decide_eq_true rfl)) ?_
        refine XR_a (op_pick_t rfl rfl) rfl rfl ?_
        refine XR_a (op_move rfl) rfl rfl ?_
        refine XR_a (op_ldA (st.cells 1 rfl) rfl rfl rfl rfl) rfl rfl ?_
        refine XR_a (op_ldA (st.cells 4 rfl) rfl rfl rfl rfl) rfl rfl ?_
        refine XR_a (op_eqlH rfl rfl (eq_desc _ _ _ _ _ _) (by kernel_rfl)) rfl rfl ?_
        refine XR_as (.bool true) (by simp) ?_
        refine XR_a (op_pick_t rfl rfl) rfl rfl ?_
        refine XR_a (op_move rfl) rfl rfl ?_
        refine XR_a (op_move rfl) rfl rfl ?_
        refine XR_a (op_eql rfl rfl) rfl rfl ?_
        refine XR_as (.bool true) (rfl) ?_
        refine XR_a (op_pick_t rfl rfl) rfl rfl ?_
        refine XR_a (op_move rfl) rfl rfl ?_
        refine XR_a (op_move rfl) rfl rfl ?_
        refine XR_a (op_len rfl rfl rfl) rfl rfl ?_
        refine XR_a (op_move rfl) rfl rfl ?_
        refine XR_a (op_eql rfl rfl) rfl rfl ?_
        refine XR_as (.bool true) (congrArg Value.bool (decide_eq_true rfl)) ?_
        refine XR_a (op_pick_t rfl rfl) rfl rfl ?_
        refine XR_a (op_move rfl) rfl rfl ?_
        refine XR_wa (opl_call (lives18 _) rfl (by kernel_rfl)) rfl rfl rfl ?_
        rintro _ hp ⟨rfl, hx⟩
        refine XR_a (op_pick_t rfl rfl) rfl rfl ?_
        refine XR_a (op_assign rfl) rfl rfl ?_
        refine XR_nil ?_
        refine X_ret (.cons (.tmp rfl) .nil) ?_
        exact ⟨rfl, st.low.trans (hx.mono st.low.size)⟩
end Go.Bn
