/- The contracts of script.Put, Len, Same, and of bindleref31.One, Put. -/
import Derived.Test.YtpkhilbgkkjebaaScript11
set_option linter.unusedVariables false
set_option linter.unusedSimpArgs false
set_option maxHeartbeats 4000000
set_option maxRecDepth 20000
namespace Go.Bn
open Go Proofs

theorem one31_ref {s : Stp} {A K : Option Addr} {cd ck : Nat} {h0 : Heap} (hs : s.right) (ra : Rd h0 A (s.data.map byteV)) (rk : Rd h0 K (s.keep.map Value.bool)) :
    Ret Try.prog 16 [.agg (stC s (.slice A s.data.length cd) (.slice K s.keep.length ck)).toArray] h0 fun v h' => St h0.size h0 h' [row 5 1 v ((oneB s).map byteV)] := by
  obtain ⟨h1, h2, h3, h4, h5, h6⟩ := hs
  obtain ⟨kd, hkd⟩ : ∃ k : Nat, s.kind = k := ⟨s.kind.toNat, by omega⟩
  obtain ⟨nn, hnn⟩ : ∃ k : Nat, s.n + 1 = k := ⟨(s.n + 1).toNat, by omega⟩
  obtain ⟨nm, hnm⟩ : ∃ k : Nat, s.names = k := ⟨s.names.toNat, by omega⟩
  have w2 : wid 2 = 2 := rfl
  have w4 : wid 4 = 4 := rfl
  have hB : oneB s = [UInt8.ofNat kd, UInt8.ofNat s.name.length] ++ s.name ++ leB (wid 2) nn ++ leB (wid 4) s.data.length ++ s.data ++ [UInt8.ofNat s.keep.length] ++ pack s.keep ++ [UInt8.ofNat nm, s.fill] := by
    simp only [oneB, hkd, hnn, hnm, Int.toNat_natCast]; rfl
  have bone : ∀ l : List UInt8, ∀ u ∈ l.map byteV, Value.one u = true := by intro l u hu; obtain ⟨_, _, rfl⟩ := List.mem_map.1 hu; rfl
  rw [hB]
  refine ret_of_X Try.func16 rfl rfl fun w0 hw0 => ?_
  simp only [argE, Nat.zero_add, Nat.reduceAdd]
  have st := St.start h0
  refine X_seq ?_
  refine X_reg ?_
  refine XR_wa (opl_bx (cs := stC s (.slice A s.data.length cd) (.slice K s.keep.length ck)) rfl rfl) rfl rfl rfl ?_
  rintro _ hp ⟨p, rfl, hnew⟩
  replace st := st.new hnew
  refine XR_a (op_assign rfl) rfl rfl ?_
  refine XR_nil ?_
  refine X_seq ?_
  refine X_reg ?_
  first | refine XR_a (op_field0 rfl rfl) rfl rfl ?_ | refine XR_a (op_fieldn rfl rfl) rfl rfl ?_
  refine XR_a (op_ld (st.cell 0 (i := 0) rfl rfl) rfl rfl rfl) rfl rfl ?_
  refine XR_a (op_convI (k' := .u8) rfl rfl (by simp only [inK]; omega)) rfl rfl ?_
  first | refine XR_a (op_field0 rfl rfl) rfl rfl ?_ | refine XR_a (op_fieldn rfl rfl) rfl rfl ?_
  refine XR_a (op_ld (st.cell 0 (i := 1) rfl rfl) rfl rfl rfl) rfl rfl ?_
  refine XR_a (op_lenS rfl rfl rfl) rfl rfl ?_
  refine XR_a (op_convI (k' := .u8) rfl rfl (by simp only [inK]; omega)) rfl rfl ?_
  refine XR_wa (opl_lits [.int .u8 s.kind, .int .u8 (s.name.length : Int)] rfl rfl rfl rfl (by kernel_rfl) rfl) rfl rfl rfl ?_
  rintro v hp hnew
  replace st := st.new hnew
  have hcs : [Value.int .u8 s.kind, .int .u8 (s.name.length : Int)] = [UInt8.ofNat kd, UInt8.ofNat s.name.length].map byteV := by
    rw [List.map_cons, List.map_cons, List.map_nil, byteV_nat (by omega), byteV_nat (by omega), hkd]
  rw [hcs] at st
  first | refine XR_a (op_field0 rfl rfl) rfl rfl ?_ | refine XR_a (op_fieldn rfl rfl) rfl rfl ?_
  refine XR_a (op_ld (st.cell 1 (i := 1) rfl rfl) rfl rfl rfl) rfl rfl ?_
  refine XR_wa (opl_append_str st 0 rfl (by simp; omega) rfl rfl rfl rfl rfl rfl) rfl rfl rfl fun v hp st => ?_
  simp only [List.set_cons_zero, List.set_cons_succ] at st
  rw [← List.map_append] at st
  refine XR_a (op_assign rfl) rfl rfl ?_
  refine XR_nil ?_
  refine X_seq ?_
  refine X_reg ?_
  refine XR_a (op_move rfl) rfl rfl ?_
  first | refine XR_a (op_field0 rfl rfl) rfl rfl ?_ | refine XR_a (op_fieldn rfl rfl) rfl rfl ?_
  refine XR_a (op_ld (st.cell 1 (i := 3) rfl rfl) rfl rfl rfl) rfl rfl ?_
  refine XR_a (op_addI rfl rfl (by simp only [inK]; omega)) rfl rfl ?_
  refine XR_a (op_convI (k' := .u32) rfl rfl (by simp only [inK]; omega)) rfl rfl ?_
  rw [hnn]
  refine XR_wa (opl_call (fput_ref (n := nn) (by omega)) rfl (by kernel_rfl)) rfl rfl rfl ?_
  rintro v8 hp st2
  replace st := st.join st2
  simp only [List.cons_append, List.nil_append] at st
  obtain ⟨A8, n8, c8, rfl, hl8, _, _, hr8⟩ := st.row 0 rfl
  refine XR_wa (opl_append st 1 rfl (hr8) (hl8) (bone _) (by simp [leB_length]; omega) rfl rfl rfl rfl rfl rfl rfl) rfl rfl rfl fun v hp st => ?_
  simp only [List.set_cons_zero, List.set_cons_succ] at st
  replace st := st.tail
  rw [← List.map_append] at st
  refine XR_a (op_assign rfl) rfl rfl ?_
  refine XR_nil ?_
  refine X_seq ?_
  refine X_reg ?_
  refine XR_a (op_move rfl) rfl rfl ?_
  first | refine XR_a (op_field0 rfl rfl) rfl rfl ?_ | refine XR_a (op_fieldn rfl rfl) rfl rfl ?_
  refine XR_a (op_ld (st.cell 1 (i := 2) rfl rfl) rfl rfl rfl) rfl rfl ?_
  refine XR_a (op_len rfl rfl rfl) rfl rfl ?_
  refine XR_a (op_convI (k' := .u32) rfl rfl (by simp only [inK]; omega)) rfl rfl ?_
  refine XR_wa (opl_call (fput_ref (n := s.data.length) (by omega)) rfl (by kernel_rfl)) rfl rfl rfl ?_
  rintro v7 hp st2
  replace st := st.join st2
  simp only [List.cons_append, List.nil_append] at st
  obtain ⟨A7, n7, c7, rfl, hl7, _, _, hr7⟩ := st.row 0 rfl
  refine XR_wa (opl_append st 1 rfl (hr7) (hl7) (bone _) (by simp [leB_length]; omega) rfl rfl rfl rfl rfl rfl rfl) rfl rfl rfl fun v hp st => ?_
  simp only [List.set_cons_zero, List.set_cons_succ] at st
  replace st := st.tail
  rw [← List.map_append] at st
  refine XR_a (op_assign rfl) rfl rfl ?_
  refine XR_nil ?_
  refine X_seq ?_
  refine X_reg ?_
  refine XR_a (op_move rfl) rfl rfl ?_
  first | refine XR_a (op_field0 rfl rfl) rfl rfl ?_ | refine XR_a (op_fieldn rfl rfl) rfl rfl ?_
  refine XR_a (op_ld (st.cell 1 (i := 2) rfl rfl) rfl rfl rfl) rfl rfl ?_
  refine XR_wa (opl_append st 0 rfl (ra.ext st.low) (by simp) (bone _) (by simp [leB_length]; omega) rfl rfl rfl rfl rfl rfl rfl) rfl rfl rfl fun v hp st => ?_
  simp only [List.set_cons_zero, List.set_cons_succ] at st
  rw [← List.map_append] at st
  refine XR_a (op_assign rfl) rfl rfl ?_
  refine XR_nil ?_
  refine X_seq ?_
  refine X_reg ?_
  refine XR_a (op_move rfl) rfl rfl ?_
  first | refine XR_a (op_field0 rfl rfl) rfl rfl ?_ | refine XR_a (op_fieldn rfl rfl) rfl rfl ?_
  first | refine XR_a (op_field0 rfl rfl) rfl rfl ?_ | refine XR_a (op_fieldn rfl rfl) rfl rfl ?_
  refine XR_a (op_ld (st.cell 1 (i := 4) rfl rfl) rfl rfl rfl) rfl rfl ?_
  refine XR_a (op_len rfl rfl rfl) rfl rfl ?_
  refine XR_a (op_convI (k' := .u8) rfl rfl (by simp only [inK]; omega)) rfl rfl ?_
  refine XR_wa (opl_var1 rfl rfl rfl) rfl rfl rfl ?_
  rintro _ hp ⟨A, rfl, hx, hrd⟩
  have st := st.ext hx
  refine XR_wa (opl_append st 0 rfl (hrd) (rfl) (by intro u hu; simp at hu; subst hu; rfl) (by simp [leB_length]; omega) rfl rfl rfl rfl rfl rfl rfl) rfl rfl rfl fun v hp st => ?_
  simp only [List.set_cons_zero, List.set_cons_succ] at st
  rw [show [Value.int .u8 (s.keep.length : Int)] = [UInt8.ofNat s.keep.length].map byteV by rw [List.map_cons, List.map_nil, byteV_nat (by omega)], ← List.map_append] at st
  refine XR_a (op_assign rfl) rfl rfl ?_
  refine XR_nil ?_
  refine X_seq ?_
  refine X_reg ?_
  refine XR_a (op_move rfl) rfl rfl ?_
  first | refine XR_a (op_field0 rfl rfl) rfl rfl ?_ | refine XR_a (op_fieldn rfl rfl) rfl rfl ?_
  first | refine XR_a (op_field0 rfl rfl) rfl rfl ?_ | refine XR_a (op_fieldn rfl rfl) rfl rfl ?_
  refine XR_a (op_ld (st.cell 1 (i := 4) rfl rfl) rfl rfl rfl) rfl rfl ?_
  refine XR_wa (opl_call (keep31_ref (rk.ext st.low) rfl (by omega)) rfl (by kernel_rfl)) rfl rfl rfl ?_
  rintro v9 hp st2
  replace st := st.join st2
  simp only [List.cons_append, List.nil_append] at st
  obtain ⟨A9, n9, c9, rfl, hl9, _, _, hr9⟩ := st.row 0 rfl
  refine XR_wa (opl_append st 1 rfl (hr9) (hl9) (bone _) (by simp [leB_length, pack_length]; omega) rfl rfl rfl rfl rfl rfl rfl) rfl rfl rfl fun v hp st => ?_
  simp only [List.set_cons_zero, List.set_cons_succ] at st
  replace st := st.tail
  rw [← List.map_append] at st
  refine XR_a (op_assign rfl) rfl rfl ?_
  refine XR_nil ?_
  refine X_seq ?_
  refine X_reg ?_
  refine XR_a (op_move rfl) rfl rfl ?_
  first | refine XR_a (op_field0 rfl rfl) rfl rfl ?_ | refine XR_a (op_fieldn rfl rfl) rfl rfl ?_
  first | refine XR_a (op_field0 rfl rfl) rfl rfl ?_ | refine XR_a (op_fieldn rfl rfl) rfl rfl ?_
  refine XR_a (op_ld (st.cell 1 (i := 5) rfl rfl) rfl rfl rfl) rfl rfl ?_
  refine XR_a (op_convI (k' := .u8) rfl rfl (by simp only [inK]; omega)) rfl rfl ?_
  first | refine XR_a (op_field0 rfl rfl) rfl rfl ?_ | refine XR_a (op_fieldn rfl rfl) rfl rfl ?_
  first | refine XR_a (op_field0 rfl rfl) rfl rfl ?_ | refine XR_a (op_fieldn rfl rfl) rfl rfl ?_
  refine XR_a (op_ld (st.cell 1 (i := 6) rfl rfl) rfl rfl rfl) rfl rfl ?_
  refine XR_wa (opl_lits [.int .u8 s.names, byteV s.fill] rfl rfl rfl rfl (by kernel_rfl) rfl) rfl rfl rfl ?_
  rintro v hp hnew
  replace st := st.new hnew
  have hcs2 : [Value.int .u8 s.names, byteV s.fill] = [UInt8.ofNat nm, s.fill].map byteV := by
    rw [List.map_cons, List.map_cons, List.map_nil, byteV_nat (by omega), hnm]
  rw [hcs2] at st
  obtain ⟨A6, n6, c6, rfl, hl6, _, _, hr6⟩ := st.row 0 rfl
  refine XR_wa (opl_append st 1 rfl (hr6) (hl6) (bone _) (by simp [leB_length, pack_length]; omega) rfl rfl rfl rfl rfl rfl rfl) rfl rfl rfl fun v hp st => ?_
  simp only [List.set_cons_zero, List.set_cons_succ] at st
  rw [← List.map_append] at st
  refine XR_a (op_assign rfl) rfl rfl ?_
  refine XR_nil ?_
  refine X_ret (.cons (.tmp rfl) .nil) ?_
  exact st.tail.keep 1

theorem sput_spec {n c : Nat} {A : Option Addr} {xs : List (Stp × Value × Value)} {h0 : Heap} (hr : Rd h0 A (xs.flatMap stX)) (hl : xs.length = n) (hx : ∀ x ∈ xs, okX h0 x) :
    Ret Try.prog 20 [.slice A n c] h0 fun v h' => ∃ w, v = retVal [w, nV (putS31 (xs.map (·.1))).2] ∧ St h0.size h0 h' [row 5 1 w ((putS31 (xs.map (·.1))).1.map byteV)] := by
  have hnil : ∀ h', St h0.size h0 h' [] → St h0.size h0 h' [row 5 1 (.slice none 0 0) (([] : List UInt8).map byteV)] := fun h' st => st.nilrow 5 1
  refine ret_of_X Try.func20 rfl rfl fun w0 hw0 => ?_
  simp only [argE, Nat.zero_add, Nat.reduceAdd]
  have st := St.start h0
  refine X_seq ?_
  refine X_reg ?_
  refine XR_a (op_assign rfl) rfl rfl ?_
  refine XR_a (op_assign rfl) rfl rfl ?_
  refine XR_nil ?_
  refine X_seq ?_
  refine X_seq ?_
  refine X_reg ?_
  refine XR_a (op_move rfl) rfl rfl ?_
  refine XR_a (op_len rfl rfl rfl) rfl rfl ?_
  refine XR_a (op_gtr rfl rfl) rfl rfl ?_
  refine XR_nil ?_
  refine X_if rfl (fun h => ?_) (fun h => ?_)
  · refine X_seq ?_
    refine X_reg ?_
    refine XR_a (op_assign rfl) rfl rfl ?_
    refine XR_a (op_assign rfl) rfl rfl ?_
    refine XR_nil ?_
    refine X_ret (.cons (.tmp rfl) (.cons (.tmp rfl) .nil)) ?_
    rw [putS31_long (by rw [List.length_map]; omega)]
    exact ⟨_, rfl, hnil _ st⟩
  · refine X_skip ?_
    refine X_seq ?_
    refine X_reg ?_
    refine XR_a (op_move rfl) rfl rfl ?_
    refine XR_a (op_len rfl rfl rfl) rfl rfl ?_
    refine XR_a (op_convI (k' := .u32) rfl rfl (by simp only [inK]; omega)) rfl rfl ?_
    refine XR_wa (opl_call (fput_spec (F := []) (st.nilrow 5 1).here (n := n) (l := []) (by omega) (by simp)) rfl (by kernel_rfl)) rfl rfl rfl ?_
    rintro v hp st2
    replace st := (st.nilrow 5 1).trans st2
    clear st2
    rw [List.nil_append, show wid 2 = 2 from rfl] at st
    refine XR_a (op_assign rfl) rfl rfl ?_
    refine XR_nil ?_
    refine X_seq ?_
    refine X_seq ?_
    refine X_reg ?_
    refine XR_a (op_move rfl) rfl rfl ?_
    refine XR_a (op_len rfl rfl rfl) rfl rfl ?_
    refine XR_a (op_move rfl) rfl rfl ?_
    refine XR_nil ?_
    refine X_block ?_
    refine X_loop (fun s => n - s.1) (fun s => [(4, s.2), (14, .slice A n c), (15, nV n), (16, nV s.1)])
      (fun (s : Nat × Value) hp => s.1 ≤ n ∧ (∀ x ∈ (xs.take s.1).map (·.1), x.right) ∧ St h0.size h0 hp [row 5 1 s.2 ((leB 2 n ++ ((xs.take s.1).map (·.1)).flatMap oneB).map byteV)])
      (0, v) (.cons rfl (.cons rfl (.cons rfl (.cons rfl (.nil _))))) ⟨Nat.zero_le _, by simp, by simpa using st⟩ ?_
    clear st
    rintro ⟨i, v⟩ hp ⟨hi, hri, st⟩
    simp only at hi hri st ⊢
    refine X_seq ?_
    refine X_reg ?_
    refine XR_a (op_lss rfl rfl) rfl rfl ?_
    refine XR_nil ?_
    refine X_seq ?_
    refine X_if rfl (fun h => ?_) (fun h => ?_)
    · have hi1 : i < xs.length := by omega
      obtain ⟨g1, o1, rfl, hc1⟩ := Rd.flat stX 7 hr (fun _ => rfl) (by omega) (by omega)
      obtain ⟨⟨Ad, nd, cd, e1, hl1, r1⟩, ⟨Ak, nk, ck, e2, hl2, r2⟩⟩ := hx xs[i] (List.getElem_mem hi1)
      have hcx := fun q u (hu : (stX xs[i])[q]? = some u) => cellH_ext (a := ⟨g1, o1 + i * 7 + q, none⟩) st.low (hc1 i hi1 q u hu)
      subst hl1 hl2
      simp only [stX, e1, e2] at hcx
      have htk : (xs.take (i + 1)).map (·.1) = (xs.take i).map (·.1) ++ [xs[i].1] := by rw [List.take_succ_eq_append_getElem hi1, List.map_append]; rfl
      refine X_skip ?_
      refine X_seq ?_
      refine X_block ?_
      refine X_seq ?_
      refine X_reg ?_
      refine XR_a (op_index (i := i) rfl rfl rfl (by omega)) rfl rfl ?_
      refine XR_a (op_ldA (vs := stC xs[i].1 (.slice Ad xs[i].1.data.length cd) (.slice Ak xs[i].1.keep.length ck)) hcx rfl rfl rfl rfl) rfl rfl ?_
      refine XR_wa (opl_new rfl) rfl rfl rfl ?_
      rintro _ hp ⟨p6, rfl, hnew⟩
      replace st := st.new hnew
      refine XR_wn (opl_store_whole (us := stC xs[i].1 (.slice Ad xs[i].1.data.length cd) (.slice Ak xs[i].1.keep.length ck)) st 0 rfl rfl rfl rfl rfl (one_stC _ rfl rfl) rfl) rfl rfl fun _ hp st => ?_
      simp only [List.set_cons_zero] at st
      refine XR_nil ?_
      refine X_seq ?_
      refine X_seq ?_
      refine X_reg ?_
      refine XR_a (op_ldA (vs := stC xs[i].1 (.slice Ad xs[i].1.data.length cd) (.slice Ak xs[i].1.keep.length ck)) (st.cells 0 rfl) rfl rfl rfl rfl) rfl rfl ?_
      refine XR_wa (opl_call (sright_spec _ _ _ _ _ _) rfl (by kernel_rfl)) rfl rfl rfl ?_
      rintro _ hp ⟨rfl, hE5⟩
      replace st := st.ext hE5
      first | refine XR_a (op_notd rfl) rfl rfl ?_ | refine XR_a (op_not rfl) rfl rfl ?_
      refine XR_nil ?_
      refine X_if rfl (fun h => ?_) (fun h => ?_)
      · refine X_seq ?_
        refine X_reg ?_
        refine XR_a (op_assign rfl) rfl rfl ?_
        refine XR_a (op_assign rfl) rfl rfl ?_
        refine XR_nil ?_
        refine X_ret (.cons (.tmp rfl) (.cons (.tmp rfl) .nil)) ?_
        rw [putS31_bad (by rw [List.length_map]; omega) (List.mem_map_of_mem (f := (·.1)) (List.getElem_mem hi1)) (by simpa using h)]
        exact ⟨_, rfl, hnil _ st.drop⟩
      · refine X_skip ?_
        refine X_reg ?_
        refine XR_a (op_move rfl) rfl rfl ?_
        have hrt : xs[i].1.right := by simpa using h
        refine XR_a (op_ldA (vs := stC xs[i].1 (.slice Ad xs[i].1.data.length cd) (.slice Ak xs[i].1.keep.length ck)) (st.cells 0 rfl) rfl rfl rfl rfl) rfl rfl ?_
        refine XR_wa (opl_call (sput_one hrt (r1.ext st.low) (r2.ext st.low)) rfl (by kernel_rfl)) rfl rfl rfl ?_
        rintro v9 hp st2
        replace st := st.join st2
        simp only [List.cons_append, List.nil_append] at st
        obtain ⟨A9, n9, c9, rfl, hl9, _, _, hr9⟩ := st.row 0 rfl
        have hf := flat_oneB_len ((xs.take i).map (·.1)) hri
        have ho := flat_oneB_len [xs[i].1] (by simpa using hrt)
        rw [List.length_map, List.length_take] at hf
        simp only [List.flatMap_cons, List.flatMap_nil, List.append_nil, List.length_cons, List.length_nil] at ho
        refine XR_wa (opl_append st 2 rfl (hr9) (hl9) (by intro u hu; obtain ⟨_, _, rfl⟩ := List.mem_map.1 hu; rfl) (by simp only [List.length_append, List.length_map, leB_length, Nat.mul_one]; omega) rfl rfl rfl rfl rfl rfl rfl) rfl rfl rfl fun v hp st => ?_
        simp only [List.set_cons_zero, List.set_cons_succ] at st
        rw [← List.map_append, List.append_assoc, show ((xs.take i).map (·.1)).flatMap oneB ++ oneB xs[i].1 = ((xs.take (i + 1)).map (·.1)).flatMap oneB by rw [htk, List.flatMap_append]; simp] at st
        refine XR_a (op_assign rfl) rfl rfl ?_
        refine XR_nil ?_
        refine X_blk ?_
        refine X_reg ?_
        first | refine XR_a (op_addN (n := 1) rfl rfl (by simp only [inK]; omega)) rfl rfl ?_ | refine XR_a (op_addI rfl rfl (by simp only [inK]; omega)) rfl rfl ?_ | refine XR_a (op_add rfl rfl) rfl rfl ?_
        refine XR_a (op_move rfl) rfl rfl ?_
        refine XR_nil ?_
        refine X_again (i + 1, _) (.cons rfl (.cons rfl (.cons rfl (.cons rfl (.nil _))))) ⟨by simp only; omega, ?_, st.tail.tail⟩ (by simp only; omega)
        intro x hx9
        simp only at hx9
        rw [htk] at hx9
        rcases List.mem_append.1 hx9 with h8 | h8
        · exact hri x h8
        · rw [List.mem_singleton.1 h8]; exact hrt
    · refine X_exit rfl ?_
      refine X_seq ?_
      refine X_reg ?_
      refine XR_a (op_move rfl) rfl rfl ?_
      refine XR_a (op_assign rfl) rfl rfl ?_
      refine XR_a (op_assign rfl) rfl rfl ?_
      refine XR_nil ?_
      refine X_ret (.cons (.tmp rfl) (.cons (.tmp rfl) .nil)) ?_
      obtain rfl : i = n := by omega
      rw [List.take_of_length_le (by omega)] at hri st
      rw [putS31_ok (by rw [List.length_map]; omega) hri, List.length_map, hl]
      exact ⟨_, rfl, st⟩

theorem sput_ref {n c : Nat} {A : Option Addr} {xs : List (Stp × Value × Value)} {h0 : Heap} (hr : Rd h0 A (xs.flatMap stX)) (hl : xs.length = n) (hx : ∀ x ∈ xs, okX h0 x) :
    Ret Try.prog 21 [.slice A n c] h0 fun v h' => ∃ w, v = retVal [w, nV (putS31 (xs.map (·.1))).2] ∧ St h0.size h0 h' [row 5 1 w ((putS31 (xs.map (·.1))).1.map byteV)] := by
  have hnil : ∀ h', St h0.size h0 h' [] → St h0.size h0 h' [row 5 1 (.slice none 0 0) (([] : List UInt8).map byteV)] := fun h' st => st.nilrow 5 1
  refine ret_of_X Try.func21 rfl rfl fun w0 hw0 => ?_
  simp only [argE, Nat.zero_add, Nat.reduceAdd]
  have st := St.start h0
  refine X_seq ?_
  refine X_reg ?_
  refine XR_a (op_assign rfl) rfl rfl ?_
  refine XR_a (op_assign rfl) rfl rfl ?_
  refine XR_nil ?_
  refine X_seq ?_
  refine X_seq ?_
  refine X_reg ?_
  refine XR_a (op_move rfl) rfl rfl ?_
  refine XR_a (op_len rfl rfl rfl) rfl rfl ?_
  refine XR_a (op_gtr rfl rfl) rfl rfl ?_
  refine XR_nil ?_
  refine X_if rfl (fun h => ?_) (fun h => ?_)
  · refine X_seq ?_
    refine X_reg ?_
    refine XR_a (op_assign rfl) rfl rfl ?_
    refine XR_a (op_assign rfl) rfl rfl ?_
    refine XR_nil ?_
    refine X_ret (.cons (.tmp rfl) (.cons (.tmp rfl) .nil)) ?_
    rw [putS31_long (by rw [List.length_map]; omega)]
    exact ⟨_, rfl, hnil _ st⟩
  · refine X_skip ?_
    refine X_seq ?_
    refine X_reg ?_
    refine XR_a (op_move rfl) rfl rfl ?_
    refine XR_a (op_len rfl rfl rfl) rfl rfl ?_
    refine XR_a (op_convI (k' := .u32) rfl rfl (by simp only [inK]; omega)) rfl rfl ?_
    refine XR_wa (opl_call (fput_ref (n := n) (by omega)) rfl (by kernel_rfl)) rfl rfl rfl ?_
    rintro v hp st2
    replace st := st.join st2
    clear st2
    rw [show wid 2 = 2 from rfl] at st
    refine XR_a (op_assign rfl) rfl rfl ?_
    refine XR_nil ?_
    refine X_seq ?_
    refine X_seq ?_
    refine X_reg ?_
    refine XR_a (op_assign rfl) rfl rfl ?_
    refine XR_nil ?_
    refine X_block ?_
    refine X_loop (fun s => n - s.1) (fun s => [(0, .slice A n c), (4, s.2), (5, nV s.1)])
      (fun (s : Nat × Value) hp => s.1 ≤ n ∧ (∀ x ∈ (xs.take s.1).map (·.1), x.right) ∧ St h0.size h0 hp [row 5 1 s.2 ((leB 2 n ++ ((xs.take s.1).map (·.1)).flatMap oneB).map byteV)])
      (0, v) (.cons rfl (.cons rfl (.cons rfl (.nil _)))) ⟨Nat.zero_le _, by simp, by simpa using st⟩ ?_
    clear st
    rintro ⟨i, v⟩ hp ⟨hi, hri, st⟩
    simp only at hi hri st ⊢
    refine X_seq ?_
    refine X_seq ?_
    refine X_reg ?_
    refine XR_a (op_move rfl) rfl rfl ?_
    refine XR_a (op_move rfl) rfl rfl ?_
    refine XR_a (op_len rfl rfl rfl) rfl rfl ?_
    refine XR_a (op_lss rfl rfl) rfl rfl ?_
    refine XR_nil ?_
    refine X_if rfl (fun h => ?_) (fun h => ?_)
    · have hi1 : i < xs.length := by omega
      obtain ⟨g1, o1, rfl, hc1⟩ := Rd.flat stX 7 hr (fun _ => rfl) (by omega) (by omega)
      obtain ⟨⟨Ad, nd, cd, e1, hl1, r1⟩, ⟨Ak, nk, ck, e2, hl2, r2⟩⟩ := hx xs[i] (List.getElem_mem hi1)
      have hcx := fun {hp : Heap} (hE : Ext h0 hp) q u (hu : (stX xs[i])[q]? = some u) => cellH_ext (a := ⟨g1, o1 + i * 7 + q, none⟩) hE (hc1 i hi1 q u hu)
      subst hl1 hl2
      simp only [stX, e1, e2] at hcx
      have htk : (xs.take (i + 1)).map (·.1) = (xs.take i).map (·.1) ++ [xs[i].1] := by rw [List.take_succ_eq_append_getElem hi1, List.map_append]; rfl
      refine X_skip ?_
      refine X_seq ?_
      refine X_block ?_
      refine X_seq ?_
      refine X_seq ?_
      refine X_reg ?_
      refine XR_a (op_move rfl) rfl rfl ?_
      refine XR_a (op_move rfl) rfl rfl ?_
      refine XR_a (op_index (i := i) rfl rfl rfl (by omega)) rfl rfl ?_
      refine XR_a (op_ldA (vs := stC xs[i].1 (.slice Ad xs[i].1.data.length cd) (.slice Ak xs[i].1.keep.length ck)) (hcx st.low) rfl rfl rfl rfl) rfl rfl ?_
      refine XR_wa (opl_call (right31_ref _ _ _ _ _ _) rfl (by kernel_rfl)) rfl rfl rfl ?_
      rintro _ hp ⟨rfl, hE5⟩
      replace st := st.ext hE5
      first | refine XR_a (op_notd rfl) rfl rfl ?_ | refine XR_a (op_not rfl) rfl rfl ?_
      refine XR_nil ?_
      refine X_if rfl (fun h => ?_) (fun h => ?_)
      · refine X_seq ?_
        refine X_reg ?_
        refine XR_a (op_assign rfl) rfl rfl ?_
        refine XR_a (op_assign rfl) rfl rfl ?_
        refine XR_nil ?_
        refine X_ret (.cons (.tmp rfl) (.cons (.tmp rfl) .nil)) ?_
        rw [putS31_bad (by rw [List.length_map]; omega) (List.mem_map_of_mem (f := (·.1)) (List.getElem_mem hi1)) (by simpa using h)]
        exact ⟨_, rfl, hnil _ st.drop⟩
      · refine X_skip ?_
        refine X_reg ?_
        refine XR_a (op_move rfl) rfl rfl ?_
        refine XR_a (op_move rfl) rfl rfl ?_
        refine XR_a (op_move rfl) rfl rfl ?_
        refine XR_a (op_index (i := i) rfl rfl rfl (by omega)) rfl rfl ?_
        have hrt : xs[i].1.right := by simpa using h
        refine XR_a (op_ldA (vs := stC xs[i].1 (.slice Ad xs[i].1.data.length cd) (.slice Ak xs[i].1.keep.length ck)) (hcx st.low) rfl rfl rfl rfl) rfl rfl ?_
        refine XR_wa (opl_call (one31_ref hrt (r1.ext st.low) (r2.ext st.low)) rfl (by kernel_rfl)) rfl rfl rfl ?_
        rintro v9 hp st2
        replace st := st.join st2
        simp only [List.cons_append, List.nil_append] at st
        obtain ⟨A9, n9, c9, rfl, hl9, _, _, hr9⟩ := st.row 0 rfl
        have hf := flat_oneB_len ((xs.take i).map (·.1)) hri
        have ho := flat_oneB_len [xs[i].1] (by simpa using hrt)
        rw [List.length_map, List.length_take] at hf
        simp only [List.flatMap_cons, List.flatMap_nil, List.append_nil, List.length_cons, List.length_nil] at ho
        refine XR_wa (opl_append st 1 rfl (hr9) (hl9) (by intro u hu; obtain ⟨_, _, rfl⟩ := List.mem_map.1 hu; rfl) (by simp only [List.length_append, List.length_map, leB_length, Nat.mul_one]; omega) rfl rfl rfl rfl rfl rfl rfl) rfl rfl rfl fun v hp st => ?_
        simp only [List.set_cons_zero, List.set_cons_succ] at st
        rw [← List.map_append, List.append_assoc, show ((xs.take i).map (·.1)).flatMap oneB ++ oneB xs[i].1 = ((xs.take (i + 1)).map (·.1)).flatMap oneB by rw [htk, List.flatMap_append]; simp] at st
        refine XR_a (op_assign rfl) rfl rfl ?_
        refine XR_nil ?_
        refine X_blk ?_
        refine X_reg ?_
        refine XR_a (op_move rfl) rfl rfl ?_
        first | refine XR_a (op_addN (n := 1) rfl rfl (by simp only [inK]; omega)) rfl rfl ?_ | refine XR_a (op_addI rfl rfl (by simp only [inK]; omega)) rfl rfl ?_ | refine XR_a (op_add rfl rfl) rfl rfl ?_
        refine XR_a (op_assign rfl) rfl rfl ?_
        refine XR_nil ?_
        refine X_again (i + 1, _) (.cons rfl (.cons rfl (.cons rfl (.nil _)))) ⟨by simp only; omega, ?_, st.tail⟩ (by simp only; omega)
        intro x hx9
        simp only at hx9
        rw [htk] at hx9
        rcases List.mem_append.1 hx9 with h8 | h8
        · exact hri x h8
        · rw [List.mem_singleton.1 h8]; exact hrt
    · refine X_exit rfl ?_
      refine X_seq ?_
      refine X_reg ?_
      refine XR_a (op_move rfl) rfl rfl ?_
      refine XR_a (op_assign rfl) rfl rfl ?_
      refine XR_a (op_assign rfl) rfl rfl ?_
      refine XR_nil ?_
      refine X_ret (.cons (.tmp rfl) (.cons (.tmp rfl) .nil)) ?_
      obtain rfl : i = n := by omega
      rw [List.take_of_length_le (by omega)] at hri st
      rw [putS31_ok (by rw [List.length_map]; omega) hri, List.length_map, hl]
      exact ⟨_, rfl, st⟩

theorem slen_spec (s : Stp) (A K : Option Addr) (cd ck : Nat) (h0 : Heap) : Ret Try.prog 18 [.agg (stC s (.slice A s.data.length cd) (.slice K s.keep.length ck)).toArray] h0 fun v h' => v = nV (if s.right then (oneB s).length else 0) ∧ Ext h0 h' := by
  have hob := oneB_length s
  refine ret_of_X Try.func18 rfl rfl fun w0 hw0 => ?_
  simp only [argE, Nat.zero_add, Nat.reduceAdd]
  have st := St.start h0
  refine X_seq ?_
  refine X_reg ?_
  refine XR_wa (opl_bx (cs := stC s (.slice A s.data.length cd) (.slice K s.keep.length ck)) rfl rfl) rfl rfl rfl ?_
  rintro _ hp ⟨p, rfl, hnew⟩
  replace st := st.new hnew
  refine XR_a (op_assign rfl) rfl rfl ?_
  refine XR_nil ?_
  refine X_seq ?_
  refine X_seq ?_
  refine X_reg ?_
  refine XR_a (op_ldA (vs := stC s (.slice A s.data.length cd) (.slice K s.keep.length ck)) (st.cells 0 rfl) rfl rfl rfl rfl) rfl rfl ?_
  refine XR_wa (opl_call (sright_spec _ _ _ _ _ _) rfl (by kernel_rfl)) rfl rfl rfl ?_
  rintro _ hp ⟨rfl, hE5⟩
  replace st := st.ext hE5
  first | refine XR_a (op_notd rfl) rfl rfl ?_ | refine XR_a (op_not rfl) rfl rfl ?_
  refine XR_nil ?_
  refine X_if rfl (fun h => ?_) (fun h => ?_)
  · refine X_seq ?_
    refine X_reg ?_
    refine XR_a (op_assign rfl) rfl rfl ?_
    refine XR_nil ?_
    refine X_ret (.cons (.tmp rfl) .nil) ?_
    rw [if_neg (by simpa using h)]
    exact ⟨rfl, st.low⟩
  · have hrt : s.right := by simpa using h
    obtain ⟨h1, h2, h3, h4, h5, h6⟩ := id hrt
    refine X_skip ?_
    refine X_seq ?_
    refine X_reg ?_
    first | refine XR_a (op_field0 rfl rfl) rfl rfl ?_ | refine XR_a (op_fieldn rfl rfl) rfl rfl ?_
    refine XR_a (op_ld (st.cell 0 (i := 1) rfl rfl) rfl rfl rfl) rfl rfl ?_
    refine XR_a (op_lenS rfl rfl rfl) rfl rfl ?_
    first | refine XR_a (op_addN (m := 11) rfl rfl (by simp only [inK]; omega)) rfl rfl ?_ | refine XR_a (op_addI rfl rfl (by simp only [inK]; omega)) rfl rfl ?_ | refine XR_a (op_add rfl rfl) rfl rfl ?_
    first | refine XR_a (op_field0 rfl rfl) rfl rfl ?_ | refine XR_a (op_fieldn rfl rfl) rfl rfl ?_
    refine XR_a (op_ld (st.cell 0 (i := 2) rfl rfl) rfl rfl rfl) rfl rfl ?_
    refine XR_a (op_len rfl rfl rfl) rfl rfl ?_
    first | refine XR_a (op_addN rfl rfl (by simp only [inK]; omega)) rfl rfl ?_ | refine XR_a (op_addI rfl rfl (by simp only [inK]; omega)) rfl rfl ?_ | refine XR_a (op_add rfl rfl) rfl rfl ?_
    first | refine XR_a (op_field0 rfl rfl) rfl rfl ?_ | refine XR_a (op_fieldn rfl rfl) rfl rfl ?_
    first | refine XR_a (op_field0 rfl rfl) rfl rfl ?_ | refine XR_a (op_fieldn rfl rfl) rfl rfl ?_
    refine XR_a (op_ld (st.cell 0 (i := 4) rfl rfl) rfl rfl rfl) rfl rfl ?_
    refine XR_a (op_len rfl rfl rfl) rfl rfl ?_
    first | refine XR_a (op_addN (n := 7) rfl rfl (by simp only [inK]; omega)) rfl rfl ?_ | refine XR_a (op_addI rfl rfl (by simp only [inK]; omega)) rfl rfl ?_ | refine XR_a (op_add rfl rfl) rfl rfl ?_
    first | refine XR_a (op_quoN (n := 8) rfl rfl (by omega) (by simp only [inK]; omega)) rfl rfl ?_ | refine XR_a (op_quoI rfl rfl (by omega) (by omega) (by simp only [inK]; omega)) rfl rfl ?_ | refine XR_a (op_quo rfl rfl (by omega)) rfl rfl ?_
    first | refine XR_a (op_addN rfl rfl (by simp only [inK]; omega)) rfl rfl ?_ | refine XR_a (op_addI rfl rfl (by simp only [inK]; omega)) rfl rfl ?_ | refine XR_a (op_add rfl rfl) rfl rfl ?_
    refine XR_a (op_assign rfl) rfl rfl ?_
    refine XR_nil ?_
    refine X_ret (.cons (.tmp rfl) .nil) ?_
    rw [if_pos hrt, hob]
    exact ⟨rfl, st.low⟩

theorem equalB_spec {n c m d : Nat} {A B : Option Addr} {l k : List Bool} {h0 : Heap} (ra : Rd h0 A (l.map Value.bool)) (rb : Rd h0 B (k.map Value.bool)) (hl : l.length = n) (hk : k.length = m) (hn : n ≤ 1048576) :
    Ret Try.prog 33 [.slice A n c, .slice B m d] h0 fun v h' => v = .bool (decide (l = k)) ∧ h0 = h' := by
  refine ret_of_X Try.func33 rfl rfl fun w0 hw0 => ?_
  simp only [argE, Nat.zero_add, Nat.reduceAdd]
  refine X_seq ?_
  refine X_reg ?_
  refine XR_a (op_assign rfl) rfl rfl ?_
  refine XR_nil ?_
  refine X_seq ?_
  refine X_seq ?_
  refine X_reg ?_
  refine XR_a (op_move rfl) rfl rfl ?_
  refine XR_a (op_len rfl rfl rfl) rfl rfl ?_
  refine XR_a (op_move rfl) rfl rfl ?_
  refine XR_a (op_len rfl rfl rfl) rfl rfl ?_
  refine XR_a (op_neq rfl rfl) rfl rfl ?_
  refine XR_nil ?_
  refine X_if rfl (fun h => ?_) (fun h => ?_)
  · refine X_seq ?_
    refine X_reg ?_
    refine XR_a (op_assign rfl) rfl rfl ?_
    refine XR_nil ?_
    refine X_ret (.cons (.tmp rfl) .nil) ?_
    exact ⟨congrArg Value.bool (decide_eq_false fun h9 => by subst h9; omega).symm, rfl⟩
  · refine X_skip ?_
    refine X_seq ?_
    refine X_seq ?_
    refine X_reg ?_
    refine XR_a (op_move rfl) rfl rfl ?_
    refine XR_a (op_len rfl rfl rfl) rfl rfl ?_
    refine XR_a (op_move rfl) rfl rfl ?_
    refine XR_nil ?_
    refine X_block ?_
    obtain rfl : n = m := by omega
    refine X_loop (fun i => n - i) (fun i => [(0, .slice A n c), (1, .slice B n d), (12, nV n), (13, nV i)])
      (fun (i : Nat) hp => hp = h0 ∧ i ≤ n ∧ l.take i = k.take i) 0 (.cons rfl (.cons rfl (.cons rfl (.cons rfl (.nil _))))) ⟨rfl, Nat.zero_le _, rfl⟩ ?_
    rintro i hp ⟨rfl, hi, hall⟩
    refine X_seq ?_
    refine X_reg ?_
    refine XR_a (op_lss rfl rfl) rfl rfl ?_
    refine XR_nil ?_
    refine X_seq ?_
    refine X_if rfl (fun h => ?_) (fun h => ?_)
    · have hi1 : i < l.length := by omega
      have hi2 : i < k.length := by omega
      obtain ⟨g1, o1, rfl, hc1⟩ := ra.at_ (by rw [List.length_map]; omega)
      obtain ⟨g2, o2, rfl, hc2⟩ := rb.at_ (by rw [List.length_map]; omega)
      refine X_skip ?_
      refine X_seq ?_
      refine X_block ?_
      refine X_seq ?_
      refine X_reg ?_
      refine XR_a (op_move rfl) rfl rfl ?_
      refine XR_a (op_assign rfl) rfl rfl ?_
      refine XR_nil ?_
      refine X_seq ?_
      refine X_draw byKind (by kernel_rfl) (by kernel_rfl) ?_
      refine XR_a (op_move rfl) rfl rfl ?_
      refine XR_a (op_move rfl) rfl rfl ?_
      first | refine XR_a (op_index1 rfl rfl rfl (by omega)) rfl rfl ?_ | refine XR_a (op_index rfl rfl rfl (by omega)) rfl rfl ?_
      refine XR_a (op_ld (hc1 i (.bool l[i]) (by simp [hi1])) rfl rfl rfl) rfl rfl ?_
      refine XR_a (op_move rfl) rfl rfl ?_
      refine XR_a (op_move rfl) rfl rfl ?_
      first | refine XR_a (op_index1 rfl rfl rfl (by omega)) rfl rfl ?_ | refine XR_a (op_index rfl rfl rfl (by omega)) rfl rfl ?_
      refine XR_a (op_ld (hc2 i (.bool k[i]) (by simp [hi2])) rfl rfl rfl) rfl rfl ?_
      refine XR_a (op_neqB rfl rfl rfl) rfl rfl ?_
      refine XR_nil ?_
      refine X_if rfl (fun h => ?_) (fun h => ?_)
      · refine X_seq ?_
        refine X_reg ?_
        refine XR_a (op_assign rfl) rfl rfl ?_
        refine XR_nil ?_
        refine X_ret (.cons (.tmp rfl) .nil) ?_
        refine ⟨congrArg Value.bool (decide_eq_false fun h9 => ?_).symm, rfl⟩
        subst h9
        exact absurd rfl h
      · refine X_skip ?_
        refine X_blk ?_
        refine X_reg ?_
        first | refine XR_a (op_addN (n := 1) rfl rfl (by simp only [inK]; omega)) rfl rfl ?_ | refine XR_a (op_addI rfl rfl (by simp only [inK]; omega)) rfl rfl ?_ | refine XR_a (op_add rfl rfl) rfl rfl ?_
        refine XR_a (op_move rfl) rfl rfl ?_
        refine XR_nil ?_
        have hbe := Decidable.not_not.1 h
        exact X_again (i + 1) (.cons rfl (.cons rfl (.cons rfl (.cons rfl (.nil _))))) ⟨rfl, by omega, by rw [List.take_succ_eq_append_getElem hi1, List.take_succ_eq_append_getElem hi2, hall, hbe]⟩ (by omega)
    · refine X_exit rfl ?_
      refine X_seq ?_
      refine X_reg ?_
      refine XR_a (op_assign rfl) rfl rfl ?_
      refine XR_nil ?_
      refine X_ret (.cons (.tmp rfl) .nil) ?_
      rw [List.take_of_length_le (by omega), List.take_of_length_le (by omega)] at hall
      exact ⟨congrArg Value.bool (decide_eq_true hall).symm, rfl⟩

theorem ssame_spec {s t : Stp} {A1 K1 A2 K2 : Option Addr} {c1 d1 c2 d2 : Nat} {h0 : Heap} (ra : Rd h0 A1 (s.data.map byteV)) (rk : Rd h0 K1 (s.keep.map Value.bool)) (rb : Rd h0 A2 (t.data.map byteV)) (rl : Rd h0 K2 (t.keep.map Value.bool)) (hkn : s.keep.length ≤ 1048576) :
    Ret Try.prog 19 [.agg (stC s (.slice A1 s.data.length c1) (.slice K1 s.keep.length d1)).toArray, .agg (stC t (.slice A2 t.data.length c2) (.slice K2 t.keep.length d2)).toArray] h0
      fun v h' => v = .bool (decide (s = t)) ∧ Ext h0 h' := by
  refine ret_of_X Try.func19 rfl rfl fun w0 hw0 => ?_
  simp only [argE, Nat.zero_add, Nat.reduceAdd]
  have st := St.start h0
  refine X_seq ?_
  refine X_reg ?_
  refine XR_wa (opl_bx (cs := stC s (.slice A1 s.data.length c1) (.slice K1 s.keep.length d1)) rfl rfl) rfl rfl rfl ?_
  rintro _ hp ⟨p1, rfl, hnew⟩
  replace st := st.new hnew
  refine XR_wa (opl_bx (cs := stC t (.slice A2 t.data.length c2) (.slice K2 t.keep.length d2)) rfl rfl) rfl rfl rfl ?_
  rintro _ hp ⟨p2, rfl, hnew⟩
  replace st := st.new hnew
  refine XR_a (op_assign rfl) rfl rfl ?_
  refine XR_nil ?_
  refine X_seq ?_
  refine X_reg ?_
  first | refine XR_a (op_field0 rfl rfl) rfl rfl ?_ | refine XR_a (op_fieldn rfl rfl) rfl rfl ?_
  refine XR_a (op_ld (st.cell 1 (i := 0) rfl rfl) rfl rfl rfl) rfl rfl ?_
  first | refine XR_a (op_field0 rfl rfl) rfl rfl ?_ | refine XR_a (op_fieldn rfl rfl) rfl rfl ?_
  refine XR_a (op_ld (st.cell 0 (i := 0) rfl rfl) rfl rfl rfl) rfl rfl ?_
  refine XR_a (op_eql rfl rfl) rfl rfl ?_
  refine XR_a (op_move rfl) rfl rfl ?_
  refine XR_if 11 rfl (fun h => ?_) (fun h => ?_)
  · first | refine XR_a (op_field0 rfl rfl) rfl rfl ?_ | refine XR_a (op_fieldn rfl rfl) rfl rfl ?_
    refine XR_a (op_ld (st.cell 1 (i := 1) rfl rfl) rfl rfl rfl) rfl rfl ?_
    first | refine XR_a (op_field0 rfl rfl) rfl rfl ?_ | refine XR_a (op_fieldn rfl rfl) rfl rfl ?_
    refine XR_a (op_ld (st.cell 0 (i := 1) rfl rfl) rfl rfl rfl) rfl rfl ?_
    refine XR_a (op_eqlS rfl rfl) rfl rfl ?_
    refine XR_a (op_pick_t rfl rfl) rfl rfl ?_
    refine XR_a (op_move rfl) rfl rfl ?_
    refine XR_if 18 rfl (fun h => ?_) (fun h => ?_)
    · first | refine XR_a (op_field0 rfl rfl) rfl rfl ?_ | refine XR_a (op_fieldn rfl rfl) rfl rfl ?_
      refine XR_a (op_ld (st.cell 1 (i := 2) rfl rfl) rfl rfl rfl) rfl rfl ?_
      refine XR_a (op_str (ra.ext st.low) rfl rfl rfl rfl rfl) rfl rfl ?_
      first | refine XR_a (op_field0 rfl rfl) rfl rfl ?_ | refine XR_a (op_fieldn rfl rfl) rfl rfl ?_
      refine XR_a (op_ld (st.cell 0 (i := 2) rfl rfl) rfl rfl rfl) rfl rfl ?_
      refine XR_a (op_str (rb.ext st.low) rfl rfl rfl rfl rfl) rfl rfl ?_
      refine XR_a (op_eqlS rfl rfl) rfl rfl ?_
      refine XR_a (op_pick_t rfl rfl) rfl rfl ?_
      refine XR_a (op_move rfl) rfl rfl ?_
      refine XR_if 27 rfl (fun h => ?_) (fun h => ?_)
      · first | refine XR_a (op_field0 rfl rfl) rfl rfl ?_ | refine XR_a (op_fieldn rfl rfl) rfl rfl ?_
        refine XR_a (op_ld (st.cell 1 (i := 3) rfl rfl) rfl rfl rfl) rfl rfl ?_
        first | refine XR_a (op_field0 rfl rfl) rfl rfl ?_ | refine XR_a (op_fieldn rfl rfl) rfl rfl ?_
        refine XR_a (op_ld (st.cell 0 (i := 3) rfl rfl) rfl rfl rfl) rfl rfl ?_
        refine XR_a (op_eql rfl rfl) rfl rfl ?_
        refine XR_a (op_pick_t rfl rfl) rfl rfl ?_
        refine XR_a (op_assign rfl) rfl rfl ?_
        refine XR_nil ?_
        refine X_seq ?_
        refine X_reg ?_
        refine XR_a (op_move rfl) rfl rfl ?_
        refine XR_a (op_move rfl) rfl rfl ?_
        refine XR_if 35 rfl (fun h => ?_) (fun h => ?_)
        · first | refine XR_a (op_field0 rfl rfl) rfl rfl ?_ | refine XR_a (op_fieldn rfl rfl) rfl rfl ?_
          first | refine XR_a (op_field0 rfl rfl) rfl rfl ?_ | refine XR_a (op_fieldn rfl rfl) rfl rfl ?_
          refine XR_a (op_ld (st.cell 1 (i := 4) rfl rfl) rfl rfl rfl) rfl rfl ?_
          first | refine XR_a (op_field0 rfl rfl) rfl rfl ?_ | refine XR_a (op_fieldn rfl rfl) rfl rfl ?_
          first | refine XR_a (op_field0 rfl rfl) rfl rfl ?_ | refine XR_a (op_fieldn rfl rfl) rfl rfl ?_
          refine XR_a (op_ld (st.cell 0 (i := 4) rfl rfl) rfl rfl rfl) rfl rfl ?_
          refine XR_wa (opl_call (equalB_spec (ra.ext st.low |> fun _ => rk.ext st.low) (rl.ext st.low) rfl rfl hkn) rfl (by kernel_rfl)) rfl rfl rfl ?_
          rintro _ hp ⟨rfl, rfl⟩
          refine XR_a (op_pick_t rfl rfl) rfl rfl ?_
          refine XR_a (op_move rfl) rfl rfl ?_
          refine XR_if 44 rfl (fun h => ?_) (fun h => ?_)
          · first | refine XR_a (op_field0 rfl rfl) rfl rfl ?_ | refine XR_a (op_fieldn rfl rfl) rfl rfl ?_
            first | refine XR_a (op_field0 rfl rfl) rfl rfl ?_ | refine XR_a (op_fieldn rfl rfl) rfl rfl ?_
            refine XR_a (op_ld (st.cell 1 (i := 5) rfl rfl) rfl rfl rfl) rfl rfl ?_
            first | refine XR_a (op_field0 rfl rfl) rfl rfl ?_ | refine XR_a (op_fieldn rfl rfl) rfl rfl ?_
            first | refine XR_a (op_field0 rfl rfl) rfl rfl ?_ | refine XR_a (op_fieldn rfl rfl) rfl rfl ?_
            refine XR_a (op_ld (st.cell 0 (i := 5) rfl rfl) rfl rfl rfl) rfl rfl ?_
            refine XR_a (op_eql rfl rfl) rfl rfl ?_
            refine XR_a (op_pick_t rfl rfl) rfl rfl ?_
            refine XR_a (op_move rfl) rfl rfl ?_
            refine XR_if 53 rfl (fun h => ?_) (fun h => ?_)
            · first | refine XR_a (op_field0 rfl rfl) rfl rfl ?_ | refine XR_a (op_fieldn rfl rfl) rfl rfl ?_
              first | refine XR_a (op_field0 rfl rfl) rfl rfl ?_ | refine XR_a (op_fieldn rfl rfl) rfl rfl ?_
              refine XR_a (op_ld (st.cell 1 (i := 6) rfl rfl) rfl rfl rfl) rfl rfl ?_
              first | refine XR_a (op_field0 rfl rfl) rfl rfl ?_ | refine XR_a (op_fieldn rfl rfl) rfl rfl ?_
              first | refine XR_a (op_field0 rfl rfl) rfl rfl ?_ | refine XR_a (op_fieldn rfl rfl) rfl rfl ?_
              refine XR_a (op_ld (st.cell 0 (i := 6) rfl rfl) rfl rfl rfl) rfl rfl ?_
              refine XR_a (op_eql rfl rfl) rfl rfl ?_
              refine XR_a (op_pick_t rfl rfl) rfl rfl ?_
              refine XR_a (op_assign rfl) rfl rfl ?_
              refine XR_nil ?_
              refine X_ret (.cons (.tmp rfl) .nil) ?_
              refine ⟨?_, st.low⟩
              have key : ∀ b : Prop, [Decidable b] → (b ↔ s = t) → Value.bool (decide b) = .bool (decide (s = t)) := fun b _ hb => congrArg Value.bool (decide_eq_decide.2 hb)
              first
                | (refine key _ ?_; constructor
                   · intro h9; refine Stp.ext' ?_ ?_ ?_ ?_ ?_ ?_ ?_ <;> first | omega | exact UInt8.toNat_inj.1 (by omega) | simp_all
                   · intro h9; subst h9; simp_all)
                | exact congrArg Value.bool (decide_eq_false fun h9 => by subst h9; simp_all).symm
            · refine XR_no rfl rfl ?_
              refine XR_no rfl rfl ?_
              refine XR_no rfl rfl ?_
              refine XR_no rfl rfl ?_
              refine XR_no rfl rfl ?_
              refine XR_no rfl rfl ?_
              refine XR_no rfl rfl ?_
              refine XR_a (op_pick_f rfl rfl) rfl rfl ?_
              refine XR_a (op_assign rfl) rfl rfl ?_
              refine XR_nil ?_
              refine X_ret (.cons (.tmp rfl) .nil) ?_
              refine ⟨?_, st.low⟩
              have key : ∀ b : Prop, [Decidable b] → (b ↔ s = t) → Value.bool (decide b) = .bool (decide (s = t)) := fun b _ hb => congrArg Value.bool (decide_eq_decide.2 hb)
              first
                | (refine key _ ?_; constructor
                   · intro h9; refine Stp.ext' ?_ ?_ ?_ ?_ ?_ ?_ ?_ <;> first | omega | exact UInt8.toNat_inj.1 (by omega) | simp_all
                   · intro h9; subst h9; simp_all)
                | exact congrArg Value.bool (decide_eq_false fun h9 => by subst h9; simp_all).symm
          · refine XR_no rfl rfl ?_
            refine XR_no rfl rfl ?_
            refine XR_no rfl rfl ?_
            refine XR_no rfl rfl ?_
            refine XR_no rfl rfl ?_
            refine XR_no rfl rfl ?_
            refine XR_no rfl rfl ?_
            refine XR_a (op_pick_f rfl rfl) rfl rfl ?_
            refine XR_a (op_move rfl) rfl rfl ?_
            refine XR_no rfl rfl ?_
            refine XR_no rfl rfl ?_
            refine XR_no rfl rfl ?_
            refine XR_no rfl rfl ?_
            refine XR_no rfl rfl ?_
            refine XR_no rfl rfl ?_
            refine XR_no rfl rfl ?_
            refine XR_a (op_pick_f rfl rfl) rfl rfl ?_
            refine XR_a (op_assign rfl) rfl rfl ?_
            refine XR_nil ?_
            refine X_ret (.cons (.tmp rfl) .nil) ?_
            refine ⟨?_, st.low⟩
            have key : ∀ b : Prop, [Decidable b] → (b ↔ s = t) → Value.bool (decide b) = .bool (decide (s = t)) := fun b _ hb => congrArg Value.bool (decide_eq_decide.2 hb)
            first
              | (refine key _ ?_; constructor
                 · intro h9; refine Stp.ext' ?_ ?_ ?_ ?_ ?_ ?_ ?_ <;> first | omega | exact UInt8.toNat_inj.1 (by omega) | simp_all
                 · intro h9; subst h9; simp_all)
              | exact congrArg Value.bool (decide_eq_false fun h9 => by subst h9; simp_all).symm
        · refine XR_no rfl rfl ?_
          refine XR_no rfl rfl ?_
          refine XR_no rfl rfl ?_
          refine XR_no rfl rfl ?_
          refine XR_no rfl rfl ?_
          refine XR_no rfl rfl ?_
          refine XR_no rfl rfl ?_
          refine XR_a (op_pick_f rfl rfl) rfl rfl ?_
          refine XR_a (op_move rfl) rfl rfl ?_
          refine XR_no rfl rfl ?_
          refine XR_no rfl rfl ?_
          refine XR_no rfl rfl ?_
          refine XR_no rfl rfl ?_
          refine XR_no rfl rfl ?_
          refine XR_no rfl rfl ?_
          refine XR_no rfl rfl ?_
          refine XR_a (op_pick_f rfl rfl) rfl rfl ?_
          refine XR_a (op_move rfl) rfl rfl ?_
          refine XR_no rfl rfl ?_
          refine XR_no rfl rfl ?_
          refine XR_no rfl rfl ?_
          refine XR_no rfl rfl ?_
          refine XR_no rfl rfl ?_
          refine XR_no rfl rfl ?_
          refine XR_no rfl rfl ?_
          refine XR_a (op_pick_f rfl rfl) rfl rfl ?_
          refine XR_a (op_assign rfl) rfl rfl ?_
          refine XR_nil ?_
          refine X_ret (.cons (.tmp rfl) .nil) ?_
          refine ⟨?_, st.low⟩
          have key : ∀ b : Prop, [Decidable b] → (b ↔ s = t) → Value.bool (decide b) = .bool (decide (s = t)) := fun b _ hb => congrArg Value.bool (decide_eq_decide.2 hb)
          first
            | (refine key _ ?_; constructor
               · intro h9; refine Stp.ext' ?_ ?_ ?_ ?_ ?_ ?_ ?_ <;> first | omega | exact UInt8.toNat_inj.1 (by omega) | simp_all
               · intro h9; subst h9; simp_all)
            | exact congrArg Value.bool (decide_eq_false fun h9 => by subst h9; simp_all).symm
      · refine XR_no rfl rfl ?_
        refine XR_no rfl rfl ?_
        refine XR_no rfl rfl ?_
        refine XR_no rfl rfl ?_
        refine XR_no rfl rfl ?_
        refine XR_a (op_pick_f rfl rfl) rfl rfl ?_
        refine XR_a (op_assign rfl) rfl rfl ?_
        refine XR_nil ?_
        refine X_seq ?_
        refine X_reg ?_
        refine XR_a (op_move rfl) rfl rfl ?_
        refine XR_a (op_move rfl) rfl rfl ?_
        refine XR_no rfl rfl ?_
        refine XR_no rfl rfl ?_
        refine XR_no rfl rfl ?_
        refine XR_no rfl rfl ?_
        refine XR_no rfl rfl ?_
        refine XR_no rfl rfl ?_
        refine XR_no rfl rfl ?_
        refine XR_a (op_pick_f rfl rfl) rfl rfl ?_
        refine XR_a (op_move rfl) rfl rfl ?_
        refine XR_no rfl rfl ?_
        refine XR_no rfl rfl ?_
        refine XR_no rfl rfl ?_
        refine XR_no rfl rfl ?_
        refine XR_no rfl rfl ?_
        refine XR_no rfl rfl ?_
        refine XR_no rfl rfl ?_
        refine XR_a (op_pick_f rfl rfl) rfl rfl ?_
        refine XR_a (op_move rfl) rfl rfl ?_
        refine XR_no rfl rfl ?_
        refine XR_no rfl rfl ?_
        refine XR_no rfl rfl ?_
        refine XR_no rfl rfl ?_
        refine XR_no rfl rfl ?_
        refine XR_no rfl rfl ?_
        refine XR_no rfl rfl ?_
        refine XR_a (op_pick_f rfl rfl) rfl rfl ?_
        refine XR_a (op_assign rfl) rfl rfl ?_
        refine XR_nil ?_
        refine X_ret (.cons (.tmp rfl) .nil) ?_
        refine ⟨?_, st.low⟩
        have key : ∀ b : Prop, [Decidable b] → (b ↔ s = t) → Value.bool (decide b) = .bool (decide (s = t)) := fun b _ hb => congrArg Value.bool (decide_eq_decide.2 hb)
        first
          | (refine key _ ?_; constructor
             · intro h9; refine Stp.ext' ?_ ?_ ?_ ?_ ?_ ?_ ?_ <;> first | omega | exact UInt8.toNat_inj.1 (by omega) | simp_all
             · intro h9; subst h9; simp_all)
          | exact congrArg Value.bool (decide_eq_false fun h9 => by subst h9; simp_all).symm
    · refine XR_no rfl rfl ?_
      refine XR_no rfl rfl ?_
      refine XR_no rfl rfl ?_
      refine XR_no rfl rfl ?_
      refine XR_no rfl rfl ?_
      refine XR_no rfl rfl ?_
      refine XR_no rfl rfl ?_
      refine XR_a (op_pick_f rfl rfl) rfl rfl ?_
      refine XR_a (op_move rfl) rfl rfl ?_
      refine XR_no rfl rfl ?_
      refine XR_no rfl rfl ?_
      refine XR_no rfl rfl ?_
      refine XR_no rfl rfl ?_
      refine XR_no rfl rfl ?_
      refine XR_a (op_pick_f rfl rfl) rfl rfl ?_
      refine XR_a (op_assign rfl) rfl rfl ?_
      refine XR_nil ?_
      refine X_seq ?_
      refine X_reg ?_
      refine XR_a (op_move rfl) rfl rfl ?_
      refine XR_a (op_move rfl) rfl rfl ?_
      refine XR_no rfl rfl ?_
      refine XR_no rfl rfl ?_
      refine XR_no rfl rfl ?_
      refine XR_no rfl rfl ?_
      refine XR_no rfl rfl ?_
      refine XR_no rfl rfl ?_
      refine XR_no rfl rfl ?_
      refine XR_a (op_pick_f rfl rfl) rfl rfl ?_
      refine XR_a (op_move rfl) rfl rfl ?_
      refine XR_no rfl rfl ?_
      refine XR_no rfl rfl ?_
      refine XR_no rfl rfl ?_
      refine XR_no rfl rfl ?_
      refine XR_no rfl rfl ?_
      refine XR_no rfl rfl ?_
      refine XR_no rfl rfl ?_
      refine XR_a (op_pick_f rfl rfl) rfl rfl ?_
      refine XR_a (op_move rfl) rfl rfl ?_
      refine XR_no rfl rfl ?_
      refine XR_no rfl rfl ?_
      refine XR_no rfl rfl ?_
      refine XR_no rfl rfl ?_
      refine XR_no rfl rfl ?_
      refine XR_no rfl rfl ?_
      refine XR_no rfl rfl ?_
      refine XR_a (op_pick_f rfl rfl) rfl rfl ?_
      refine XR_a (op_assign rfl) rfl rfl ?_
      refine XR_nil ?_
      refine X_ret (.cons (.tmp rfl) .nil) ?_
      refine ⟨?_, st.low⟩
      have key : ∀ b : Prop, [Decidable b] → (b ↔ s = t) → Value.bool (decide b) = .bool (decide (s = t)) := fun b _ hb => congrArg Value.bool (decide_eq_decide.2 hb)
      first
        | (refine key _ ?_; constructor
           · intro h9; refine Stp.ext' ?_ ?_ ?_ ?_ ?_ ?_ ?_ <;> first | omega | exact UInt8.toNat_inj.1 (by omega) | simp_all
           · intro h9; subst h9; simp_all)
        | exact congrArg Value.bool (decide_eq_false fun h9 => by subst h9; simp_all).symm
  · refine XR_no rfl rfl ?_
    refine XR_no rfl rfl ?_
    refine XR_no rfl rfl ?_
    refine XR_no rfl rfl ?_
    refine XR_no rfl rfl ?_
    refine XR_a (op_pick_f rfl rfl) rfl rfl ?_
    refine XR_a (op_move rfl) rfl rfl ?_
    refine XR_no rfl rfl ?_
    refine XR_no rfl rfl ?_
    refine XR_no rfl rfl ?_
    refine XR_no rfl rfl ?_
    refine XR_no rfl rfl ?_
    refine XR_no rfl rfl ?_
    refine XR_no rfl rfl ?_
    refine XR_a (op_pick_f rfl rfl) rfl rfl ?_
    refine XR_a (op_move rfl) rfl rfl ?_
    refine XR_no rfl rfl ?_
    refine XR_no rfl rfl ?_
    refine XR_no rfl rfl ?_
    refine XR_no rfl rfl ?_
    refine XR_no rfl rfl ?_
    refine XR_a (op_pick_f rfl rfl) rfl rfl ?_
    refine XR_a (op_assign rfl) rfl rfl ?_
    refine XR_nil ?_
    refine X_seq ?_
    refine X_reg ?_
    refine XR_a (op_move rfl) rfl rfl ?_
    refine XR_a (op_move rfl) rfl rfl ?_
    refine XR_no rfl rfl ?_
    refine XR_no rfl rfl ?_
    refine XR_no rfl rfl ?_
    refine XR_no rfl rfl ?_
    refine XR_no rfl rfl ?_
    refine XR_no rfl rfl ?_
    refine XR_no rfl rfl ?_
    refine XR_a (op_pick_f rfl rfl) rfl rfl ?_
    refine XR_a (op_move rfl) rfl rfl ?_
    refine XR_no rfl rfl ?_
    refine XR_no rfl rfl ?_
    refine XR_no rfl rfl ?_
    refine XR_no rfl rfl ?_
    refine XR_no rfl rfl ?_
    refine XR_no rfl rfl ?_
    refine XR_no rfl rfl ?_
    refine XR_a (op_pick_f rfl rfl) rfl rfl ?_
    refine XR_a (op_move rfl) rfl rfl ?_
    refine XR_no rfl rfl ?_
    refine XR_no rfl rfl ?_
    refine XR_no rfl rfl ?_
    refine XR_no rfl rfl ?_
    refine XR_no rfl rfl ?_
    refine XR_no rfl rfl ?_
    refine XR_no rfl rfl ?_
    refine XR_a (op_pick_f rfl rfl) rfl rfl ?_
    refine XR_a (op_assign rfl) rfl rfl ?_
    refine XR_nil ?_
    refine X_ret (.cons (.tmp rfl) .nil) ?_
    refine ⟨?_, st.low⟩
    have key : ∀ b : Prop, [Decidable b] → (b ↔ s = t) → Value.bool (decide b) = .bool (decide (s = t)) := fun b _ hb => congrArg Value.bool (decide_eq_decide.2 hb)
    first
      | (refine key _ ?_; constructor
         · intro h9; refine Stp.ext' ?_ ?_ ?_ ?_ ?_ ?_ ?_ <;> first | omega | exact UInt8.toNat_inj.1 (by omega) | simp_all
         · intro h9; subst h9; simp_all)
      | exact congrArg Value.bool (decide_eq_false fun h9 => by subst h9; simp_all).symm
end Go.Bn
