/- The walk of bindlelaw31.ScriptBack. -/
import Derived.Test.YtpkhilbgkkjebaaLaw31b
import Derived.Test.YtpkhilbgkkjebaaPScript5
set_option linter.unusedVariables false
set_option linter.unusedSimpArgs false
set_option maxHeartbeats 4000000
set_option maxRecDepth 20000
namespace Go.Bn
open Go Proofs

theorem scriptBack_ret {n c m cb mo : Nat} {A Ab : Option Addr} {xs : List (Stp × Value × Value)} {lb : List UInt8} {h0 : Heap} (hr : Rd h0 A (xs.flatMap stX)) (hl : xs.length = n) (hx : ∀ x ∈ xs, okX h0 x) (hrb : Rd h0 Ab (lb.map byteV)) (hlb : lb.length = m) (hcb : m ≤ cb) (hmo : mo < 256) :
    Ret Try.prog 6 [.slice A n c, .slice Ab m cb, .int .u8 (mo : Int)] h0 fun v h' => v = .bool true ∧ Ext h0 h' := by
  have bone : ∀ l : List UInt8, ∀ u ∈ l.map byteV, Value.one u = true := by intro l u hu; obtain ⟨_, _, rfl⟩ := List.mem_map.1 hu; rfl
  refine ret_of_X Try.func6 rfl rfl fun w0 hw0 => ?_
  simp only [argE, Nat.zero_add, Nat.reduceAdd]
  have st := St.start h0
  refine X_seq ?_
  refine X_reg ?_
  refine XR_a (op_assign rfl) rfl rfl ?_
  refine XR_nil ?_
  refine X_seq ?_
  refine X_seq ?_
  refine X_reg ?_
  refine XR_a (op_move rfl) rfl rfl ?_
  refine XR_wa (opl_call (great31 hr hl hx) rfl (by kernel_rfl)) rfl rfl rfl ?_
  rintro _ _ ⟨q1, dq1, rfl, rfl, hq1⟩
  refine XR_a (op_move rfl) rfl rfl ?_
  refine XR_if 23 rfl (fun h => ?_) (fun h => ?_)
  · refine XR_no rfl rfl ?_
    refine XR_no rfl rfl ?_
    refine XR_no rfl rfl ?_
    refine XR_a (op_pick_t rfl rfl) rfl rfl ?_
    refine XR_nil ?_
    refine X_then rfl ?_
    refine X_seq ?_
    refine X_reg ?_
    refine XR_wa (opl_call (lives31 _) rfl (by kernel_rfl)) rfl rfl rfl ?_
    rintro _ hp ⟨rfl, hx⟩
    refine XR_a (op_assign rfl) rfl rfl ?_
    refine XR_nil ?_
    refine X_ret (.cons (.tmp rfl) .nil) ?_
    exact ⟨rfl, st.low.trans (hx.mono st.low.size)⟩
  · refine XR_a (op_move rfl) rfl rfl ?_
    refine XR_a (op_len rfl rfl rfl) rfl rfl ?_
    refine XR_a (op_gtr rfl rfl) rfl rfl ?_
    refine XR_a (op_pick_f rfl rfl) rfl rfl ?_
    refine XR_nil ?_
    refine X_if rfl (fun h => ?_) (fun h => ?_)
    · refine X_seq ?_
      refine X_reg ?_
      refine XR_wa (opl_call (lives31 _) rfl (by kernel_rfl)) rfl rfl rfl ?_
      rintro _ hp ⟨rfl, hx⟩
      refine XR_a (op_assign rfl) rfl rfl ?_
      refine XR_nil ?_
      refine X_ret (.cons (.tmp rfl) .nil) ?_
      exact ⟨rfl, st.low.trans (hx.mono st.low.size)⟩
    · refine X_skip ?_
      refine X_seq ?_
      refine X_reg ?_
      refine XR_a (op_move rfl) rfl rfl ?_
      refine XR_wa (opl_call (sput_spec hr hl hx) rfl (by kernel_rfl)) rfl rfl rfl ?_
      rintro _ hp ⟨w1, rfl, st1⟩
      obtain ⟨hn250, hsm⟩ := hq1 ‹¬ q1›
      obtain ⟨P, hP⟩ : ∃ P, putS31 (xs.map (·.1)) = P := ⟨_, rfl⟩
      rw [hP] at st1 ⊢
      replace st := st.join st1
      clear st1
      obtain ⟨A7, n7, c7, rfl, hl7, hc7, _⟩ := st.row 0 rfl
      rw [List.length_map, Nat.mul_one] at hl7
      refine XR_a (op_move rfl) rfl rfl ?_
      refine XR_a (op_extract rfl rfl) rfl rfl ?_
      refine XR_a (op_extract rfl rfl) rfl rfl ?_
      refine XR_a (op_assign rfl) rfl rfl ?_
      refine XR_a (op_assign rfl) rfl rfl ?_
      refine XR_nil ?_
      refine X_seq ?_
      refine X_seq ?_
      refine X_reg ?_
      refine XR_a (op_move rfl) rfl rfl ?_
      refine XR_a (op_eql rfl rfl) rfl rfl ?_
      refine XR_nil ?_
      refine X_if rfl (fun h => ?_) (fun h => ?_)
      · obtain ⟨hn2, hr2, hPP⟩ := putS31_zero (xs := xs.map (·.1)) (by rw [hP]; omega)
        rw [hP] at hPP
        obtain ⟨pl, hpl⟩ : ∃ pl, leB 2 (xs.map (·.1)).length ++ (xs.map (·.1)).flatMap oneB = pl := ⟨_, rfl⟩
        rw [hpl] at hPP
        rw [hPP] at st hl7 hP
        have hfl := flat_oneB_len (xs.map (·.1)) hr2
        have hplen : pl.length = 2 + ((xs.map (·.1)).flatMap oneB).length := by rw [← hpl, List.length_append, leB_length]
        have t1 : takeS31 pl = (xs.map (·.1), 0) := by
          have := take_put (post := []) hn2 hr2
          rwa [List.append_nil, hpl, if_pos rfl] at this
        have t2 : takeS31 (pl ++ [UInt8.ofNat mo]) = ([], 3) := by
          have := take_put (post := [UInt8.ofNat mo]) hn2 hr2
          rwa [← List.append_assoc, hpl, if_neg (by simp)] at this
        have t3 : takeS31 (pl.take (pl.length - 1)) = ([], 2) := by
          have := take_less hn2 hr2
          rwa [hpl] at this
        simp only at st hl7
        refine X_seq ?_
        refine X_reg ?_
        refine XR_a (op_move rfl) rfl rfl ?_
        refine XR_wa (opl_call (stake_spec (st.rdS 0 rfl).2 hl7 (by omega) hc7) rfl (by kernel_rfl)) rfl rfl rfl ?_
        rintro _ hp2 ⟨w2, ys, L2, rfl, hys, hsub, st2⟩
        rw [t1] at hys ⊢
        have oky := hsub.ok st2.tail
        obtain ⟨A2, n2, c2, rfl, hl2, _, _, rd2⟩ := st2.row 0 rfl
        rw [flat_length _ 7 (fun _ => rfl)] at hl2
        have hyl : ys.length = n := by have := congrArg List.length hys; simp only [List.length_map] at this; omega
        obtain rfl : n2 = n := by omega
        replace st := st.ext st2.low
        have hsz2 := st2.low
        clear st2
        refine XR_a (op_move rfl) rfl rfl ?_
        refine XR_a (op_extract rfl rfl) rfl rfl ?_
        refine XR_a (op_extract rfl rfl) rfl rfl ?_
        refine XR_a (op_assign rfl) rfl rfl ?_
        refine XR_a (op_assign rfl) rfl rfl ?_
        refine XR_nil ?_
        refine X_seq ?_
        refine X_seq ?_
        refine X_reg ?_
        refine XR_a (op_move rfl) rfl rfl ?_
        refine XR_a (op_neq rfl rfl) rfl rfl ?_
        refine XR_as (.bool false) (congrArg Value.bool (decide_eq_false (by simp))) ?_
        refine XR_a (op_move rfl) rfl rfl ?_
        refine XR_a (op_move rfl) rfl rfl ?_
        refine XR_a (op_len rfl rfl rfl) rfl rfl ?_
        refine XR_a (op_move rfl) rfl rfl ?_
        refine XR_a (op_len rfl rfl rfl) rfl rfl ?_
        refine XR_a (op_neq rfl rfl) rfl rfl ?_
        refine XR_as (.bool false) (congrArg Value.bool (decide_eq_false (by omega))) ?_
        refine XR_a (op_pick_f rfl rfl) rfl rfl ?_
        refine XR_nil ?_
        refine X_else rfl ?_
        refine X_skip ?_
        refine X_seq ?_
        refine X_reg ?_
        refine XR_a (op_assign rfl) rfl rfl ?_
        refine XR_nil ?_
        refine X_seq ?_
        refine X_seq ?_
        refine X_reg ?_
        refine XR_a (op_assign rfl) rfl rfl ?_
        refine XR_nil ?_
        refine X_block ?_
        refine X_loop (fun s => n2 - s.1) (fun s => [(0, .slice A n2 c), (1, .slice Ab m cb), (2, .int .u8 (mo : Int)), (7, .slice A7 n7 c7), (9, .slice A2 n2 c2), (11, nV s.2), (12, nV s.1)])
          (fun (s : Nat × Nat) hp => s.1 ≤ n2 ∧ s.2 = 2 + (((xs.take s.1).map (·.1)).flatMap oneB).length ∧ Ext hp2 hp)
          (0, 2) (.cons rfl (.cons rfl (.cons rfl (.cons rfl (.cons rfl (.cons rfl (.cons rfl (.nil _)))))))) ⟨Nat.zero_le _, by simp, Ext.refl _⟩ ?_
        rintro ⟨i, acc⟩ hp ⟨hi, hacc, hE⟩
        simp only at hi hacc hE ⊢
        refine X_seq ?_
        refine X_seq ?_
        refine X_reg ?_
        refine XR_a (op_move rfl) rfl rfl ?_
        refine XR_a (op_move rfl) rfl rfl ?_
        refine XR_a (op_len rfl rfl rfl) rfl rfl ?_
        refine XR_a (op_lss rfl rfl) rfl rfl ?_
        refine XR_nil ?_
        refine X_if rfl (fun h => ?_) (fun h => ?_)
        · have hi1 : i < xs.length := by omega
          have hi2 : i < ys.length := by omega
          obtain ⟨g1, o1, rfl, hc1⟩ := Rd.flat stX 7 hr (fun _ => rfl) (by omega) (by omega)
          obtain ⟨g2, o2, rfl, hc2⟩ := Rd.flat stX 7 rd2 (fun _ => rfl) (by omega) (by omega)
          obtain ⟨⟨Ad, nd, cd, e1, hl1, r1⟩, ⟨Ak, nk, ck, e2, hl2k, r2⟩⟩ := hx xs[i] (List.getElem_mem hi1)
          obtain ⟨⟨Bd, md, dd, e3, hl3, r3⟩, ⟨Bk, mk, dk, e4, hl4, r4⟩⟩ := oky ys[i] (List.getElem_mem hi2)
          have hE0 : Ext h0 hp := st.low.trans (hE.mono st.low.size)
          have hcx := fun {hp : Heap} (hE : Ext h0 hp) q u (hu : (stX xs[i])[q]? = some u) => cellH_ext (a := ⟨g1, o1 + i * 7 + q, none⟩) hE (hc1 i hi1 q u hu)
          have hcy := fun {hp : Heap} (hE : Ext hp2 hp) q u (hu : (stX ys[i])[q]? = some u) => cellH_ext (a := ⟨g2, o2 + i * 7 + q, none⟩) hE (hc2 i hi2 q u hu)
          have hks := (hsm xs[i] (List.getElem_mem hi1)).2.1
          have hxy : xs[i].1 = ys[i].1 := by
            have := congrArg (fun l : List Stp => l[i]?) hys
            simpa [hi1, hi2] using this.symm
          have hrt : xs[i].1.right := hr2 _ (List.mem_map_of_mem (f := (·.1)) (List.getElem_mem hi1))
          have hfi := flat_oneB_len ((xs.take i).map (·.1)) fun x hx => hr2 x (by obtain ⟨y, hy, rfl⟩ := List.mem_map.1 hx; exact List.mem_map_of_mem (f := (·.1)) (List.mem_of_mem_take hy))
          have ho := flat_oneB_len [xs[i].1] (by simpa using hrt)
          rw [List.length_map, List.length_take] at hfi
          simp only [List.flatMap_cons, List.flatMap_nil, List.append_nil, List.length_cons, List.length_nil] at ho
          have htk : (xs.take (i + 1)).map (·.1) = (xs.take i).map (·.1) ++ [xs[i].1] := by rw [List.take_succ_eq_append_getElem hi1, List.map_append]; rfl
          subst hl1 hl2k hl3 hl4
          simp only [stX, e1, e2, e3, e4] at hcx hcy
          refine X_skip ?_
          refine X_seq ?_
          refine X_block ?_
          refine X_seq ?_
          refine X_seq ?_
          refine X_draw (butAt [(8, .grow)]) (by kernel_rfl) (by kernel_rfl) ?_
          refine XR_a (op_move rfl) rfl rfl ?_
          refine XR_a (op_move rfl) rfl rfl ?_
          refine XR_a (op_index (i := i) rfl rfl rfl (by omega)) rfl rfl ?_
          refine XR_a (op_ldA (vs := stC xs[i].1 (.slice Ad xs[i].1.data.length cd) (.slice Ak xs[i].1.keep.length ck)) (hcx hE0) rfl rfl rfl rfl) rfl rfl ?_
          refine XR_a (op_move rfl) rfl rfl ?_
          refine XR_a (op_move rfl) rfl rfl ?_
          refine XR_a (op_index (i := i) rfl rfl rfl (by omega)) rfl rfl ?_
          refine XR_a (op_ldA (vs := stC ys[i].1 (.slice Bd ys[i].1.data.length dd) (.slice Bk ys[i].1.keep.length dk)) (hcy hE) rfl rfl rfl rfl) rfl rfl ?_
          refine XR_ga (opl_call (ssame_spec (r1.ext hE0) (r2.ext hE0) (r3.ext hE) (r4.ext hE) (by omega)) rfl (by kernel_rfl)) rfl rfl rfl (fun _ _ h => h.2) ?_
          rintro _ hp ⟨rfl, hE5⟩
          replace hE := Ext.trans hE hE5
          replace hE0 := Ext.trans hE0 hE5
          first | refine XR_a (op_notd rfl) rfl rfl ?_ | refine XR_a (op_not rfl) rfl rfl ?_
          refine XR_as (.bool false) (by simp [hxy]) ?_
          refine XR_nil ?_
          refine X_else rfl ?_
          refine X_skip ?_
          refine X_reg ?_
          refine XR_a (op_move rfl) rfl rfl ?_
          refine XR_a (op_move rfl) rfl rfl ?_
          refine XR_a (op_move rfl) rfl rfl ?_
          refine XR_a (op_index (i := i) rfl rfl rfl (by omega)) rfl rfl ?_
          refine XR_a (op_ldA (vs := stC xs[i].1 (.slice Ad xs[i].1.data.length cd) (.slice Ak xs[i].1.keep.length ck)) (hcx hE0) rfl rfl rfl rfl) rfl rfl ?_
          refine XR_wa (opl_call (slen_spec _ _ _ _ _ _) rfl (by kernel_rfl)) rfl rfl rfl ?_
          rintro _ hp ⟨rfl, hE5⟩
          rw [if_pos hrt]
          replace hE := Ext.trans hE hE5
          first | refine XR_a (op_addN rfl rfl (by simp only [inK]; omega)) rfl rfl ?_ | refine XR_a (op_addI rfl rfl (by simp only [inK]; omega)) rfl rfl ?_ | refine XR_a (op_add rfl rfl) rfl rfl ?_
          refine XR_a (op_assign rfl) rfl rfl ?_
          refine XR_nil ?_
          refine X_blk ?_
          refine X_reg ?_
          refine XR_a (op_move rfl) rfl rfl ?_
          first | refine XR_a (op_addN (n := 1) rfl rfl (by simp only [inK]; omega)) rfl rfl ?_ | refine XR_a (op_addI rfl rfl (by simp only [inK]; omega)) rfl rfl ?_ | refine XR_a (op_add rfl rfl) rfl rfl ?_
          refine XR_a (op_assign rfl) rfl rfl ?_
          refine XR_nil ?_
          refine X_again (i + 1, acc + (oneB xs[i].1).length) (.cons rfl (.cons rfl (.cons rfl (.cons rfl (.cons rfl (.cons rfl (.cons rfl (.nil _)))))))) ⟨by simp only; omega, ?_, hE⟩ (by simp only; omega)
          simp only
          rw [htk, List.flatMap_append, List.length_append, hacc]
          simp; omega
        · obtain rfl : i = n2 := by omega
          rw [List.take_of_length_le (by omega)] at hacc
          replace st := st.ext hE
          refine X_exit rfl ?_
          refine X_seq ?_
          refine X_reg ?_
          refine XR_wa (opl_lit0 rfl) rfl rfl rfl ?_
          rintro v hp hnew
          replace st := st.new hnew
          refine XR_a (op_move rfl) rfl rfl ?_
          refine XR_wa (opl_append st 0 rfl ((st.rdS 1 rfl).2) (by simp; omega) (bone _) (by simp; omega) rfl rfl rfl rfl rfl rfl rfl) rfl rfl rfl fun v hp st => ?_
          simp only [List.set_cons_zero, List.set_cons_succ] at st
          rw [List.nil_append] at st
          refine XR_a (op_move rfl) rfl rfl ?_
          refine XR_wa (opl_var1 rfl rfl rfl) rfl rfl rfl ?_
          rintro _ hp ⟨A, rfl, hx, hrd⟩
          have st := st.ext hx
          refine XR_wa (opl_append st 0 rfl (hrd) (rfl) (by intro u hu; simp at hu; subst hu; rfl) (by simp; omega) rfl rfl rfl rfl rfl rfl rfl) rfl rfl rfl fun v hp st => ?_
          simp only [List.set_cons_zero, List.set_cons_succ] at st
          rw [show [Value.int .u8 (mo : Int)] = [UInt8.ofNat mo].map byteV by rw [List.map_cons, List.map_nil, byteV_nat hmo], ← List.map_append] at st
          obtain ⟨A8, n8, c8, rfl, hl8, hc8, _⟩ := st.row 0 rfl
          rw [List.length_map, Nat.mul_one] at hl8
          refine XR_wa (opl_call (stake_spec (st.rdS 0 rfl).2 hl8 (by rw [← hl8, List.length_append]; simp; omega) hc8) rfl (by kernel_rfl)) rfl rfl rfl ?_
          rintro _ hp ⟨w5, ys5, L5, rfl, hys5, _, st5⟩
          rw [t2]
          replace st := st.ext st5.low
          refine XR_a (op_move rfl) rfl rfl ?_
          refine XR_a (op_extract rfl rfl) rfl rfl ?_
          refine XR_a (op_extract rfl rfl) rfl rfl ?_
          refine XR_a (op_assign rfl) rfl rfl ?_
          refine XR_a (op_assign rfl) rfl rfl ?_
          refine XR_nil ?_
          refine X_seq ?_
          refine X_seq ?_
          refine X_reg ?_
          refine XR_a (op_move rfl) rfl rfl ?_
          refine XR_a (op_move rfl) rfl rfl ?_
          refine XR_a (op_len rfl rfl rfl) rfl rfl ?_
          refine XR_a (op_neq rfl rfl) rfl rfl ?_
          refine XR_as (.bool false) (congrArg Value.bool (decide_eq_false (by omega))) ?_
          refine XR_a (op_move rfl) rfl rfl ?_
          refine XR_a (op_move rfl) rfl rfl ?_
          refine XR_a (op_neq rfl rfl) rfl rfl ?_
          refine XR_as (.bool false) (congrArg Value.bool (decide_eq_false (by simp))) ?_
          refine XR_a (op_pick_f rfl rfl) rfl rfl ?_
          refine XR_nil ?_
          refine X_else rfl ?_
          refine X_skip ?_
          refine X_seq ?_
          refine X_reg ?_
          refine XR_a (op_move rfl) rfl rfl ?_
          refine XR_a (op_move rfl) rfl rfl ?_
          refine XR_a (op_len rfl rfl rfl) rfl rfl ?_
          first | refine XR_a (op_subN (n := 1) rfl rfl (by omega) (by simp only [inK]; omega)) rfl rfl ?_ | refine XR_a (op_subI rfl rfl (by simp only [inK]; omega)) rfl rfl ?_ | refine XR_a (op_sub rfl rfl) rfl rfl ?_
          refine XR_a (op_slice_h (h := n7 - 1) rfl rfl rfl (by omega)) rfl rfl ?_
          rw [cutA_zero]
          refine XR_wa (opl_call (stake_spec (l := pl.take (pl.length - 1)) (by rw [List.map_take]; exact ((st.rdS 1 rfl).2).take _) (by rw [List.length_take]; omega) (by omega) (by omega)) rfl (by kernel_rfl)) rfl rfl rfl ?_
          rintro _ hp ⟨w6, ys6, L6, rfl, hys6, _, st6⟩
          rw [t3]
          replace st := st.ext st6.low
          refine XR_a (op_move rfl) rfl rfl ?_
          refine XR_a (op_extract rfl rfl) rfl rfl ?_
          refine XR_a (op_extract rfl rfl) rfl rfl ?_
          refine XR_a (op_assign rfl) rfl rfl ?_
          refine XR_a (op_assign rfl) rfl rfl ?_
          refine XR_nil ?_
          refine X_seq ?_
          refine X_reg ?_
          refine XR_a (op_move rfl) rfl rfl ?_
          refine XR_a (op_neq rfl rfl) rfl rfl ?_
          refine XR_as (.bool false) (congrArg Value.bool (decide_eq_false (by simp))) ?_
          refine XR_nil ?_
          refine X_else rfl ?_
          refine X_skip ?_
          refine X_seq ?_
          refine X_reg ?_
          refine XR_a (op_move rfl) rfl rfl ?_
          refine XR_wa (opl_call (stake_spec (hrb.ext st.low) hlb (by omega) hcb) rfl (by kernel_rfl)) rfl rfl rfl ?_
          rintro _ hp9 ⟨w9, zs, L9, rfl, hzs, hsub9, st9⟩
          have okz := hsub9.ok st9.tail
          obtain ⟨A9, n9, c9, rfl, hl9, _, _, rd9⟩ := st9.row 0 rfl
          rw [flat_length _ 7 (fun _ => rfl)] at hl9
          replace st := st.ext st9.low
          clear st9
          refine XR_a (op_move rfl) rfl rfl ?_
          refine XR_a (op_extract rfl rfl) rfl rfl ?_
          refine XR_a (op_extract rfl rfl) rfl rfl ?_
          refine XR_a (op_assign rfl) rfl rfl ?_
          refine XR_a (op_assign rfl) rfl rfl ?_
          refine XR_nil ?_
          refine X_seq ?_
          refine X_seq ?_
          refine X_reg ?_
          refine XR_a (op_move rfl) rfl rfl ?_
          refine XR_a (op_eql rfl rfl) rfl rfl ?_
          refine XR_nil ?_
          refine X_if rfl (fun h => ?_) (fun h => ?_)
          · refine X_seq ?_
            refine X_reg ?_
            refine XR_a (op_move rfl) rfl rfl ?_
            refine XR_wa (opl_call (sput_spec rd9 (by omega) okz) rfl (by kernel_rfl)) rfl rfl rfl ?_
            rintro _ hp ⟨w10, rfl, st10⟩
            rw [hzs, put_take (by omega)] at st10 ⊢
            obtain ⟨A10, n10, c10, rfl, hl10, _, _, rd10⟩ := st10.row 0 rfl
            rw [List.length_map, Nat.mul_one] at hl10
            replace st := st.ext st10.low
            refine XR_a (op_move rfl) rfl rfl ?_
            refine XR_a (op_extract rfl rfl) rfl rfl ?_
            refine XR_a (op_extract rfl rfl) rfl rfl ?_
            refine XR_a (op_assign rfl) rfl rfl ?_
            refine XR_a (op_assign rfl) rfl rfl ?_
            refine XR_nil ?_
            refine X_seq ?_
            refine X_reg ?_
            refine XR_a (op_move rfl) rfl rfl ?_
            refine XR_a (op_eql rfl rfl) rfl rfl ?_
            refine XR_as (.bool true) (congrArg Value.bool (decide_eq_true (by simp))) ?_
            refine XR_a (op_move rfl) rfl rfl ?_
            refine XR_a (op_move rfl) rfl rfl ?_
            refine XR_a (op_str rd10 rfl hl10 rfl rfl rfl) rfl rfl ?_
            refine XR_a (op_move rfl) rfl rfl ?_
            refine XR_a (op_str (hrb.ext st.low) rfl hlb rfl rfl rfl) rfl rfl ?_
            refine XR_a (op_eqlS rfl rfl) rfl rfl ?_
            refine XR_as (.bool true) (congrArg Value.bool (decide_eq_true rfl)) ?_
            refine XR_a (op_pick_t rfl rfl) rfl rfl ?_
            refine XR_a (op_move rfl) rfl rfl ?_
            refine XR_wa (opl_call (lives31 _) rfl (by kernel_rfl)) rfl rfl rfl ?_
            rintro _ hp ⟨rfl, hx⟩
            refine XR_a (op_pick_t rfl rfl) rfl rfl ?_
            refine XR_a (op_assign rfl) rfl rfl ?_
            refine XR_nil ?_
            refine X_ret (.cons (.tmp rfl) .nil) ?_
            exact ⟨rfl, st.low.trans (hx.mono st.low.size)⟩
          · have hz0 := take_bad (l := lb) (by omega)
            rw [hz0] at hzs
            have hz1 : zs = [] := by simpa using hzs
            have hn0 : n9 = 0 := by rw [hz1] at hl9; simp at hl9; omega
            refine X_skip ?_
            refine X_seq ?_
            refine X_reg ?_
            refine XR_a (op_move rfl) rfl rfl ?_
            refine XR_a (op_len rfl rfl rfl) rfl rfl ?_
            refine XR_a (op_eql rfl rfl) rfl rfl ?_
            refine XR_as (.bool true) (congrArg Value.bool (decide_eq_true (by omega))) ?_
            refine XR_a (op_move rfl) rfl rfl ?_
            refine XR_wa (opl_call (lives31 _) rfl (by kernel_rfl)) rfl rfl rfl ?_
            rintro _ hp ⟨rfl, hx⟩
            refine XR_a (op_pick_t rfl rfl) rfl rfl ?_
            refine XR_a (op_assign rfl) rfl rfl ?_
            refine XR_nil ?_
            refine X_ret (.cons (.tmp rfl) .nil) ?_
            exact ⟨rfl, st.low.trans (hx.mono st.low.size)⟩
      · refine X_skip ?_
        refine X_seq ?_
        refine X_reg ?_
        refine XR_a (op_move rfl) rfl rfl ?_
        refine XR_wa (opl_call (stake_spec (hrb.ext st.low) hlb (by omega) hcb) rfl (by kernel_rfl)) rfl rfl rfl ?_
        rintro _ hp9 ⟨w9, zs, L9, rfl, hzs, hsub9, st9⟩
        have okz := hsub9.ok st9.tail
        obtain ⟨A9, n9, c9, rfl, hl9, _, _, rd9⟩ := st9.row 0 rfl
        rw [flat_length _ 7 (fun _ => rfl)] at hl9
        replace st := st.ext st9.low
        clear st9
        refine XR_a (op_move rfl) rfl rfl ?_
        refine XR_a (op_extract rfl rfl) rfl rfl ?_
        refine XR_a (op_extract rfl rfl) rfl rfl ?_
        refine XR_a (op_assign rfl) rfl rfl ?_
        refine XR_a (op_assign rfl) rfl rfl ?_
        refine XR_nil ?_
        refine X_seq ?_
        refine X_seq ?_
        refine X_reg ?_
        refine XR_a (op_move rfl) rfl rfl ?_
        refine XR_a (op_eql rfl rfl) rfl rfl ?_
        refine XR_nil ?_
        refine X_if rfl (fun h => ?_) (fun h => ?_)
        · refine X_seq ?_
          refine X_reg ?_
          refine XR_a (op_move rfl) rfl rfl ?_
          refine XR_wa (opl_call (sput_spec rd9 (by omega) okz) rfl (by kernel_rfl)) rfl rfl rfl ?_
          rintro _ hp ⟨w10, rfl, st10⟩
          rw [hzs, put_take (by omega)] at st10 ⊢
          obtain ⟨A10, n10, c10, rfl, hl10, _, _, rd10⟩ := st10.row 0 rfl
          rw [List.length_map, Nat.mul_one] at hl10
          replace st := st.ext st10.low
          refine XR_a (op_move rfl) rfl rfl ?_
          refine XR_a (op_extract rfl rfl) rfl rfl ?_
          refine XR_a (op_extract rfl rfl) rfl rfl ?_
          refine XR_a (op_assign rfl) rfl rfl ?_
          refine XR_a (op_assign rfl) rfl rfl ?_
          refine XR_nil ?_
          refine X_seq ?_
          refine X_reg ?_
          refine XR_a (op_move rfl) rfl rfl ?_
          refine XR_a (op_eql rfl rfl) rfl rfl ?_
          refine XR_as (.bool true) (congrArg Value.bool (decide_eq_true (by simp))) ?_
          refine XR_a (op_move rfl) rfl rfl ?_
          refine XR_a (op_move rfl) rfl rfl ?_
          refine XR_a (op_str rd10 rfl hl10 rfl rfl rfl) rfl rfl ?_
          refine XR_a (op_move rfl) rfl rfl ?_
          refine XR_a (op_str (hrb.ext st.low) rfl hlb rfl rfl rfl) rfl rfl ?_
          refine XR_a (op_eqlS rfl rfl) rfl rfl ?_
          refine XR_as (.bool true) (congrArg Value.bool (decide_eq_true rfl)) ?_
          refine XR_a (op_pick_t rfl rfl) rfl rfl ?_
          refine XR_a (op_move rfl) rfl rfl ?_
          refine XR_wa (opl_call (lives31 _) rfl (by kernel_rfl)) rfl rfl rfl ?_
          rintro _ hp ⟨rfl, hx⟩
          refine XR_a (op_pick_t rfl rfl) rfl rfl ?_
          refine XR_a (op_assign rfl) rfl rfl ?_
          refine XR_nil ?_
          refine X_ret (.cons (.tmp rfl) .nil) ?_
          exact ⟨rfl, st.low.trans (hx.mono st.low.size)⟩
        · have hz0 := take_bad (l := lb) (by omega)
          rw [hz0] at hzs
          have hz1 : zs = [] := by simpa using hzs
          have hn0 : n9 = 0 := by rw [hz1] at hl9; simp at hl9; omega
          refine X_skip ?_
          refine X_seq ?_
          refine X_reg ?_
          refine XR_a (op_move rfl) rfl rfl ?_
          refine XR_a (op_len rfl rfl rfl) rfl rfl ?_
          refine XR_a (op_eql rfl rfl) rfl rfl ?_
          refine XR_as (.bool true) (congrArg Value.bool (decide_eq_true (by omega))) ?_
          refine XR_a (op_move rfl) rfl rfl ?_
          refine XR_wa (opl_call (lives31 _) rfl (by kernel_rfl)) rfl rfl rfl ?_
          rintro _ hp ⟨rfl, hx⟩
          refine XR_a (op_pick_t rfl rfl) rfl rfl ?_
          refine XR_a (op_assign rfl) rfl rfl ?_
          refine XR_nil ?_
          refine X_ret (.cons (.tmp rfl) .nil) ?_
          exact ⟨rfl, st.low.trans (hx.mono st.low.size)⟩
end Go.Bn
