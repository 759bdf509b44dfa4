/- The contract of bindleref31.Step. -/
import Derived.Test.YtpkhilbgkkjebaaScript8
import Derived.Test.YtpkhilbgkkjebaaPScript3
set_option linter.unusedVariables false
set_option linter.unusedSimpArgs false
set_option maxHeartbeats 4000000
set_option maxRecDepth 20000
namespace Go.Bn
open Go Proofs

theorem lv_drop (l : List UInt8) (a x w : Nat) : lv (l.drop a) x w = lv l (a + x) w := by unfold lv; rw [List.drop_drop]
theorem getD_lv {l : List UInt8} {a : Nat} (h : a < l.length) : byteV l[a] = .int .u8 ((lv l a 1 : Nat) : Int) := by rw [lv_byte h]; rfl

theorem step31_ref {m c a : Nat} {A : Option Addr} {l : List UInt8} {hb h0 : Heap} (hrb : Rd hb A (l.map byteV)) (hxb : Ext hb h0) (hl : l.length = m) (hm : m ≤ 1048576) (hmc : m ≤ c) (ha : a ≤ m) :
    Ret Try.prog 28 [.slice A m c, nV a] h0 fun v h' => ∃ s dv kv x L, v = retVal [.agg (stC s dv kv).toArray, nV x, nV (oneE l a)] ∧ (Value.one dv = true ∧ Value.one kv = true) ∧
      (oneE l a = 0 → s = stepAt l a ∧ x = eS l a ∧ (∃ A n c, dv = .slice A n c ∧ s.data.length = n ∧ Rd hb A (s.data.map byteV)) ∧ row 4 1 kv (s.keep.map Value.bool) ∈ L) ∧ St h0.size h0 h' L := by
  have hr := hrb.ext hxb
  have he := eS_eq l a
  have hd := dS_eq l a
  have hk := kS_eq l a
  have hnm := nmS_lt l a
  have hsz := szS_lt l a
  have hcn := cnS_lt l a
  have hL : (l.drop a).length = m - a := by rw [List.length_drop, hl]
  have short : m < eS l a → ∀ z : Stp, ∀ dv kv h', Value.one dv = true → Value.one kv = true → St h0.size h0 h' [] → ∃ s dv' kv' x L, retVal [.agg (stC z dv kv).toArray, nV 0, nV 2] = retVal [.agg (stC s dv' kv').toArray, nV x, nV (oneE l a)] ∧ (Value.one dv' = true ∧ Value.one kv' = true) ∧
      (oneE l a = 0 → s = stepAt l a ∧ x = eS l a ∧ (∃ A n c, dv' = .slice A n c ∧ s.data.length = n ∧ Rd hb A (s.data.map byteV)) ∧ row 4 1 kv' (s.keep.map Value.bool) ∈ L) ∧ St h0.size h0 h' L :=
    fun h z dv kv h' o1 o2 st => ⟨z, dv, kv, 0, [], by rw [oneE_short (by omega)], ⟨o1, o2⟩, fun h9 => by rw [oneE_short (by omega)] at h9; omega, st⟩
  refine ret_of_X Try.func28 rfl rfl fun w0 hw0 => ?_
  simp only [argE, Nat.zero_add, Nat.reduceAdd]
  have st := St.start h0
  refine X_seq ?_
  refine X_reg ?_
  refine XR_wa (opl_new rfl) rfl rfl rfl ?_
  rintro _ hp ⟨p4, rfl, hnew⟩
  replace st := st.new hnew
  refine XR_a (op_assign rfl) rfl rfl ?_
  refine XR_a (op_assign rfl) rfl rfl ?_
  refine XR_nil ?_
  refine X_seq ?_
  refine X_reg ?_
  refine XR_wa (opl_new rfl) rfl rfl rfl ?_
  rintro _ hp ⟨p7, rfl, hnew⟩
  replace st := st.new hnew
  replace st : St h0.size h0 hp [pt p7 37 (stC ⟨0, [], [], 0, [], 0, 0⟩ (.slice none 0 0) (.slice none 0 0)), pt p4 37 (stC ⟨0, [], [], 0, [], 0, 0⟩ (.slice none 0 0) (.slice none 0 0))] := st
  refine XR_nil ?_
  refine X_seq ?_
  refine X_reg ?_
  refine XR_a (op_move rfl) rfl rfl ?_
  refine XR_a (op_move rfl) rfl rfl ?_
  refine XR_a (op_slice_l rfl rfl rfl (by omega) (by omega)) rfl rfl ?_
  have hcut := hr.cut a 1 c (m - a) (by intro hh; simp; omega)
  rw [Nat.mul_one, ← List.map_drop, ← List.map_take, List.take_of_length_le (by omega)] at hcut
  have hcutb := hrb.cut a 1 c (m - a) (by intro hh; simp; omega)
  rw [Nat.mul_one, ← List.map_drop, ← List.map_take, List.take_of_length_le (by omega)] at hcutb
  obtain ⟨A', hA'⟩ : ∃ A', cutA A a 1 c = A' := ⟨_, rfl⟩
  rw [hA'] at hcut hcutb
  rw [hA']
  refine XR_a (op_assign rfl) rfl rfl ?_
  refine XR_nil ?_
  refine X_seq ?_
  refine X_seq ?_
  refine X_reg ?_
  refine XR_a (op_move rfl) rfl rfl ?_
  refine XR_a (op_len rfl rfl rfl) rfl rfl ?_
  refine XR_a (op_lss rfl rfl) rfl rfl ?_
  refine XR_nil ?_
  refine X_if rfl (fun h => ?_) (fun h => ?_)
  · refine X_seq ?_
    refine X_reg ?_
    refine XR_a (op_ldA (vs := stC ⟨0, [], [], 0, [], 0, 0⟩ (.slice none 0 0) (.slice none 0 0)) (st.cells 0 rfl) rfl rfl rfl rfl) rfl rfl ?_
    refine XR_wn (opl_store_whole (us := stC ⟨0, [], [], 0, [], 0, 0⟩ (.slice none 0 0) (.slice none 0 0)) st 1 rfl rfl rfl rfl rfl (one_stC _ rfl rfl) rfl) rfl rfl fun _ hp st => ?_
    simp only [List.set_cons_zero, List.set_cons_succ] at st
    refine XR_a (op_assign rfl) rfl rfl ?_
    refine XR_a (op_assign rfl) rfl rfl ?_
    refine XR_nil ?_
    refine X_ret (.cons (RV_agg (vs := stC ⟨0, [], [], 0, [], 0, 0⟩ (.slice none 0 0) (.slice none 0 0)) rfl rfl rfl (st.cells 1 rfl)) (.cons (.tmp rfl) (.cons (.tmp rfl) .nil))) ?_
    exact short (by omega) _ _ _ _ rfl rfl st.drop
  · obtain ⟨g, o, rfl, hc⟩ := hcut.at_ (by rw [List.length_map]; omega)
    have hci : ∀ {hp : Heap}, Ext h0 hp → ∀ i, i < m - a → cellH hp ⟨g, o + i, none⟩ = some (.int .u8 ((lv l (a + i) 1 : Nat) : Int)) := fun hx i hi => cellH_ext (a := ⟨g, o + i, none⟩) hx (hc i _ (by rw [List.getElem?_map, List.getElem?_drop, List.getElem?_eq_getElem (by omega)]; exact congrArg some (getD_lv _)))
    refine X_skip ?_
    refine X_seq ?_
    refine X_reg ?_
    refine XR_a (op_move rfl) rfl rfl ?_
    refine XR_a (op_index1 (i := 1) rfl rfl rfl (by omega)) rfl rfl ?_
    refine XR_a (op_ld (hci st.low 1 (by omega)) rfl rfl rfl) rfl rfl ?_
    refine XR_a (op_convI (k' := .i64) rfl rfl (by have := nmS_lt l a; unfold nmS at this; simp only [inK]; omega)) rfl rfl ?_
    rw [show lv l (a + 1) 1 = nmS l a from rfl]
    first | refine XR_a (op_addN (m := 2) rfl rfl (by simp only [inK]; omega)) rfl rfl ?_ | refine XR_a (op_addI rfl rfl (by simp only [inK]; omega)) rfl rfl ?_ | refine XR_a (op_add rfl rfl) rfl rfl ?_
    refine XR_a (op_assign rfl) rfl rfl ?_
    refine XR_nil ?_
    refine X_seq ?_
    refine X_seq ?_
    refine X_reg ?_
    refine XR_a (op_move rfl) rfl rfl ?_
    refine XR_a (op_len rfl rfl rfl) rfl rfl ?_
    refine XR_a (op_move rfl) rfl rfl ?_
    first | refine XR_a (op_addN (n := 6) rfl rfl (by simp only [inK]; omega)) rfl rfl ?_ | refine XR_a (op_addI rfl rfl (by simp only [inK]; omega)) rfl rfl ?_ | refine XR_a (op_add rfl rfl) rfl rfl ?_
    refine XR_a (op_lss rfl rfl) rfl rfl ?_
    refine XR_nil ?_
    refine X_if rfl (fun h => ?_) (fun h => ?_)
    · refine X_seq ?_
      refine X_reg ?_
      refine XR_a (op_ldA (vs := stC ⟨0, [], [], 0, [], 0, 0⟩ (.slice none 0 0) (.slice none 0 0)) (st.cells 0 rfl) rfl rfl rfl rfl) rfl rfl ?_
      refine XR_wn (opl_store_whole (us := stC ⟨0, [], [], 0, [], 0, 0⟩ (.slice none 0 0) (.slice none 0 0)) st 1 rfl rfl rfl rfl rfl (one_stC _ rfl rfl) rfl) rfl rfl fun _ hp st => ?_
      simp only [List.set_cons_zero, List.set_cons_succ] at st
      refine XR_a (op_assign rfl) rfl rfl ?_
      refine XR_a (op_assign rfl) rfl rfl ?_
      refine XR_nil ?_
      refine X_ret (.cons (RV_agg (vs := stC ⟨0, [], [], 0, [], 0, 0⟩ (.slice none 0 0) (.slice none 0 0)) rfl rfl rfl (st.cells 1 rfl)) (.cons (.tmp rfl) (.cons (.tmp rfl) .nil))) ?_
      exact short (by omega) _ _ _ _ rfl rfl st.drop
    · refine X_skip ?_
      refine X_seq ?_
      refine X_reg ?_
      refine XR_a (op_move rfl) rfl rfl ?_
      refine XR_a (op_move rfl) rfl rfl ?_
      first | refine XR_a (op_addN (n := 2) rfl rfl (by simp only [inK]; omega)) rfl rfl ?_ | refine XR_a (op_addI rfl rfl (by simp only [inK]; omega)) rfl rfl ?_ | refine XR_a (op_add rfl rfl) rfl rfl ?_
      refine XR_wa (opl_call (num16_ref (w := 4) (k := 4) (a := 2 + nmS l a + 2) rfl (hcut.ext st.low) hL (by omega) (by omega)) rfl (by kernel_rfl)) rfl rfl rfl ?_
      rintro _ _ ⟨rfl, rfl⟩
      rw [lv_drop, show a + (2 + nmS l a + 2) = kS l a + 2 by omega, show lv l (kS l a + 2) 4 = szS l a from rfl]
      refine XR_a (op_assign rfl) rfl rfl ?_
      refine XR_nil ?_
      refine X_seq ?_
      refine X_seq ?_
      refine X_reg ?_
      refine XR_a (op_move rfl) rfl rfl ?_
      refine XR_a (op_move rfl) rfl rfl ?_
      refine XR_a (op_len rfl rfl rfl) rfl rfl ?_
      refine XR_a (op_move rfl) rfl rfl ?_
      first | refine XR_a (op_subN rfl rfl (by omega) (by simp only [inK]; omega)) rfl rfl ?_ | refine XR_a (op_subI rfl rfl (by simp only [inK]; omega)) rfl rfl ?_ | refine XR_a (op_sub rfl rfl) rfl rfl ?_
      first | refine XR_a (op_subN (n := 6) rfl rfl (by omega) (by simp only [inK]; omega)) rfl rfl ?_ | refine XR_a (op_subI rfl rfl (by simp only [inK]; omega)) rfl rfl ?_ | refine XR_a (op_sub rfl rfl) rfl rfl ?_
      refine XR_a (op_gtr rfl rfl) rfl rfl ?_
      refine XR_a (op_move rfl) rfl rfl ?_
      refine XR_if 46 rfl (fun h => ?_) (fun h => ?_)
      · refine XR_no rfl rfl ?_
        refine XR_no rfl rfl ?_
        refine XR_no rfl rfl ?_
        refine XR_no rfl rfl ?_
        refine XR_no rfl rfl ?_
        refine XR_no rfl rfl ?_
        refine XR_no rfl rfl ?_
        refine XR_no rfl rfl ?_
        refine XR_a (op_pick_t rfl rfl) rfl rfl ?_
        refine XR_nil ?_
        refine X_then rfl ?_
        refine X_seq ?_
        refine X_reg ?_
        refine XR_a (op_ldA (vs := stC ⟨0, [], [], 0, [], 0, 0⟩ (.slice none 0 0) (.slice none 0 0)) (st.cells 0 rfl) rfl rfl rfl rfl) rfl rfl ?_
        refine XR_wn (opl_store_whole (us := stC ⟨0, [], [], 0, [], 0, 0⟩ (.slice none 0 0) (.slice none 0 0)) st 1 rfl rfl rfl rfl rfl (one_stC _ rfl rfl) rfl) rfl rfl fun _ hp st => ?_
        simp only [List.set_cons_zero, List.set_cons_succ] at st
        refine XR_a (op_assign rfl) rfl rfl ?_
        refine XR_a (op_assign rfl) rfl rfl ?_
        refine XR_nil ?_
        refine X_ret (.cons (RV_agg (vs := stC ⟨0, [], [], 0, [], 0, 0⟩ (.slice none 0 0) (.slice none 0 0)) rfl rfl rfl (st.cells 1 rfl)) (.cons (.tmp rfl) (.cons (.tmp rfl) .nil))) ?_
        exact short (by omega) _ _ _ _ rfl rfl st.drop
      · refine XR_a (op_move rfl) rfl rfl ?_
        refine XR_a (op_len rfl rfl rfl) rfl rfl ?_
        refine XR_a (op_move rfl) rfl rfl ?_
        first | refine XR_a (op_subN rfl rfl (by omega) (by simp only [inK]; omega)) rfl rfl ?_ | refine XR_a (op_subI rfl rfl (by simp only [inK]; omega)) rfl rfl ?_ | refine XR_a (op_sub rfl rfl) rfl rfl ?_
        first | refine XR_a (op_subN (n := 6) rfl rfl (by omega) (by simp only [inK]; omega)) rfl rfl ?_ | refine XR_a (op_subI rfl rfl (by simp only [inK]; omega)) rfl rfl ?_ | refine XR_a (op_sub rfl rfl) rfl rfl ?_
        refine XR_a (op_move rfl) rfl rfl ?_
        first | refine XR_a (op_subN rfl rfl (by omega) (by simp only [inK]; omega)) rfl rfl ?_ | refine XR_a (op_subI rfl rfl (by simp only [inK]; omega)) rfl rfl ?_ | refine XR_a (op_sub rfl rfl) rfl rfl ?_
        refine XR_a (op_lss rfl rfl) rfl rfl ?_
        refine XR_a (op_pick_f rfl rfl) rfl rfl ?_
        refine XR_nil ?_
        refine X_if rfl (fun h => ?_) (fun h => ?_)
        · refine X_seq ?_
          refine X_reg ?_
          refine XR_a (op_ldA (vs := stC ⟨0, [], [], 0, [], 0, 0⟩ (.slice none 0 0) (.slice none 0 0)) (st.cells 0 rfl) rfl rfl rfl rfl) rfl rfl ?_
          refine XR_wn (opl_store_whole (us := stC ⟨0, [], [], 0, [], 0, 0⟩ (.slice none 0 0) (.slice none 0 0)) st 1 rfl rfl rfl rfl rfl (one_stC _ rfl rfl) rfl) rfl rfl fun _ hp st => ?_
          simp only [List.set_cons_zero, List.set_cons_succ] at st
          refine XR_a (op_assign rfl) rfl rfl ?_
          refine XR_a (op_assign rfl) rfl rfl ?_
          refine XR_nil ?_
          refine X_ret (.cons (RV_agg (vs := stC ⟨0, [], [], 0, [], 0, 0⟩ (.slice none 0 0) (.slice none 0 0)) rfl rfl rfl (st.cells 1 rfl)) (.cons (.tmp rfl) (.cons (.tmp rfl) .nil))) ?_
          exact short (by omega) _ _ _ _ rfl rfl st.drop
        · refine X_skip ?_
          refine X_seq ?_
          refine X_reg ?_
          refine XR_a (op_move rfl) rfl rfl ?_
          first | refine XR_a (op_addN (n := 6) rfl rfl (by simp only [inK]; omega)) rfl rfl ?_ | refine XR_a (op_addI rfl rfl (by simp only [inK]; omega)) rfl rfl ?_ | refine XR_a (op_add rfl rfl) rfl rfl ?_
          refine XR_a (op_move rfl) rfl rfl ?_
          first | refine XR_a (op_addN rfl rfl (by simp only [inK]; omega)) rfl rfl ?_ | refine XR_a (op_addI rfl rfl (by simp only [inK]; omega)) rfl rfl ?_ | refine XR_a (op_add rfl rfl) rfl rfl ?_
          refine XR_a (op_assign rfl) rfl rfl ?_
          refine XR_nil ?_
          refine X_seq ?_
          refine X_reg ?_
          refine XR_a (op_move rfl) rfl rfl ?_
          refine XR_a (op_move rfl) rfl rfl ?_
          refine XR_a (op_index1 (i := 2 + nmS l a + 6 + szS l a) rfl rfl rfl (by omega)) rfl rfl ?_
          refine XR_a (op_ld (hci st.low (2 + nmS l a + 6 + szS l a) (by omega)) rfl rfl rfl) rfl rfl ?_
          rw [show lv l (a + (2 + nmS l a + 6 + szS l a)) 1 = cnS l a by unfold cnS; congr 1; omega]
          refine XR_a (op_convI (k' := .i64) rfl rfl (by simp only [inK]; omega)) rfl rfl ?_
          refine XR_a (op_assign rfl) rfl rfl ?_
          refine XR_nil ?_
          refine X_seq ?_
          refine X_reg ?_
          refine XR_a (op_move rfl) rfl rfl ?_
          first | refine XR_a (op_addN (n := 1) rfl rfl (by simp only [inK]; omega)) rfl rfl ?_ | refine XR_a (op_addI rfl rfl (by simp only [inK]; omega)) rfl rfl ?_ | refine XR_a (op_add rfl rfl) rfl rfl ?_
          refine XR_a (op_move rfl) rfl rfl ?_
          first | refine XR_a (op_addN (n := 7) rfl rfl (by simp only [inK]; omega)) rfl rfl ?_ | refine XR_a (op_addI rfl rfl (by simp only [inK]; omega)) rfl rfl ?_ | refine XR_a (op_add rfl rfl) rfl rfl ?_
          first | refine XR_a (op_quoN (n := 8) rfl rfl (by omega) (by simp only [inK]; omega)) rfl rfl ?_ | refine XR_a (op_quoI rfl rfl (by omega) (by omega) (by simp only [inK]; omega)) rfl rfl ?_ | refine XR_a (op_quo rfl rfl (by omega)) rfl rfl ?_
          first | refine XR_a (op_addN rfl rfl (by simp only [inK]; omega)) rfl rfl ?_ | refine XR_a (op_addI rfl rfl (by simp only [inK]; omega)) rfl rfl ?_ | refine XR_a (op_add rfl rfl) rfl rfl ?_
          first | refine XR_a (op_addN (n := 2) rfl rfl (by simp only [inK]; omega)) rfl rfl ?_ | refine XR_a (op_addI rfl rfl (by simp only [inK]; omega)) rfl rfl ?_ | refine XR_a (op_add rfl rfl) rfl rfl ?_
          refine XR_a (op_assign rfl) rfl rfl ?_
          refine XR_nil ?_
          refine X_seq ?_
          refine X_seq ?_
          refine X_reg ?_
          refine XR_a (op_move rfl) rfl rfl ?_
          refine XR_a (op_len rfl rfl rfl) rfl rfl ?_
          refine XR_a (op_move rfl) rfl rfl ?_
          refine XR_a (op_lss rfl rfl) rfl rfl ?_
          refine XR_nil ?_
          refine X_if rfl (fun h => ?_) (fun h => ?_)
          · refine X_seq ?_
            refine X_reg ?_
            refine XR_a (op_ldA (vs := stC ⟨0, [], [], 0, [], 0, 0⟩ (.slice none 0 0) (.slice none 0 0)) (st.cells 0 rfl) rfl rfl rfl rfl) rfl rfl ?_
            refine XR_wn (opl_store_whole (us := stC ⟨0, [], [], 0, [], 0, 0⟩ (.slice none 0 0) (.slice none 0 0)) st 1 rfl rfl rfl rfl rfl (one_stC _ rfl rfl) rfl) rfl rfl fun _ hp st => ?_
            simp only [List.set_cons_zero, List.set_cons_succ] at st
            refine XR_a (op_assign rfl) rfl rfl ?_
            refine XR_a (op_assign rfl) rfl rfl ?_
            refine XR_nil ?_
            refine X_ret (.cons (RV_agg (vs := stC ⟨0, [], [], 0, [], 0, 0⟩ (.slice none 0 0) (.slice none 0 0)) rfl rfl rfl (st.cells 1 rfl)) (.cons (.tmp rfl) (.cons (.tmp rfl) .nil))) ?_
            exact short (by omega) _ _ _ _ rfl rfl st.drop
          · have heS : eS l a ≤ m := by omega
            refine X_skip ?_
            refine X_seq ?_
            refine X_draw (butAt [(15, .grow)]) (by kernel_rfl) (by kernel_rfl) ?_
            refine XR_a (op_move rfl) rfl rfl ?_
            refine XR_a (op_index1 (i := 0) rfl rfl rfl (by omega)) rfl rfl ?_
            refine XR_a (op_ld (hci st.low 0 (by omega)) rfl rfl rfl) rfl rfl ?_
            refine XR_a (op_convI (k' := .i64) rfl rfl (by have := lv1 l (a + 0); simp only [inK]; omega)) rfl rfl ?_
            refine XR_a (op_move rfl) rfl rfl ?_
            refine XR_a (op_move rfl) rfl rfl ?_
            refine XR_a (op_slice (l := 2) rfl rfl rfl rfl (by omega) (by omega)) rfl rfl ?_
            have hcut2 := (hcut.ext st.low).cut 2 1 (c - a) (nmS l a) (by intro hh; simp; omega)
            rw [Nat.mul_one, ← List.map_drop, ← List.map_take, List.drop_drop] at hcut2
            refine XR_a (op_str hcut2 rfl (by rw [List.length_take, List.length_drop]; omega) rfl rfl rfl) rfl rfl ?_
            refine XR_a (op_move rfl) rfl rfl ?_
            refine XR_a (op_move rfl) rfl rfl ?_
            first | refine XR_a (op_addN (n := 6) rfl rfl (by simp only [inK]; omega)) rfl rfl ?_ | refine XR_a (op_addI rfl rfl (by simp only [inK]; omega)) rfl rfl ?_ | refine XR_a (op_add rfl rfl) rfl rfl ?_
            refine XR_a (op_move rfl) rfl rfl ?_
            refine XR_a (op_slice rfl rfl rfl rfl (by omega) (by omega)) rfl rfl ?_
            have hcut3 := hcutb.cut (2 + nmS l a + 6) 1 (c - a) (szS l a) (by intro hh; simp; omega)
            rw [Nat.mul_one, ← List.map_drop, ← List.map_take, List.drop_drop, show a + (2 + nmS l a + 6) = kS l a + 6 by omega] at hcut3
            obtain ⟨Ad, hAd⟩ : ∃ Ad, cutA (some ⟨g, o, none⟩) (2 + nmS l a + 6) 1 (c - a) = Ad := ⟨_, rfl⟩
            rw [hAd] at hcut3
            rw [hAd]
            refine XR_a (op_move rfl) rfl rfl ?_
            refine XR_a (op_move rfl) rfl rfl ?_
            refine XR_ga (opl_call (num16_ref (w := 2) (k := 2) (a := 2 + nmS l a) rfl (hcut.ext st.low) hL (by omega) (by omega)) rfl (by kernel_rfl)) rfl rfl rfl (fun _ _ h => h.2 ▸ Low.refl _ _) ?_
            rintro _ _ ⟨rfl, rfl⟩
            rw [lv_drop, show a + (2 + nmS l a) = kS l a by omega]
            refine XR_a (op_subI rfl rfl (by have := lv2 l (kS l a); simp only [inK]; omega)) rfl rfl ?_
            obtain ⟨nd, hnd⟩ : ∃ nd, (2 + nmS l a + 6 + szS l a) - (2 + nmS l a + 6) = nd := ⟨_, rfl⟩
            obtain ⟨cd, hcd⟩ : ∃ cd, c - a - (2 + nmS l a + 6) = cd := ⟨_, rfl⟩
            rw [hnd, hcd]
            refine XR_a (op_build (ps := [(0, nV (lv l (a + 0) 1)), (1, .string (str (stepAt l a).name)), (2, .slice Ad nd cd), (3, .int .i64 (stepAt l a).n)]) (cs := (stC ⟨(lv l (a + 0) 1 : Nat), (stepAt l a).name, [], (stepAt l a).n, [], 0, 0⟩ (.slice Ad nd cd) (.slice none 0 0)).toArray) rfl rfl) rfl rfl ?_
            refine XR_wn (opl_store_whole (us := stC ⟨(lv l (a + 0) 1 : Nat), (stepAt l a).name, [], (stepAt l a).n, [], 0, 0⟩ (.slice Ad nd cd) (.slice none 0 0)) st 0 rfl rfl rfl rfl rfl (one_stC _ rfl rfl) rfl) rfl rfl fun _ hp st => ?_
            simp only [List.set_cons_zero, List.set_cons_succ] at st
            refine XR_nil ?_
            refine X_seq ?_
            refine X_reg ?_
            refine XR_a (op_move rfl) rfl rfl ?_
            refine XR_a (op_move rfl) rfl rfl ?_
            first | refine XR_a (op_subN (n := 2) rfl rfl (by omega) (by simp only [inK]; omega)) rfl rfl ?_ | refine XR_a (op_subI rfl rfl (by simp only [inK]; omega)) rfl rfl ?_ | refine XR_a (op_sub rfl rfl) rfl rfl ?_
            refine XR_a (op_index1 (i := 2 + nmS l a + 6 + szS l a + 1 + (cnS l a + 7) / 8 + 2 - 2) rfl rfl rfl (by omega)) rfl rfl ?_
            refine XR_a (op_ld (hci st.low (2 + nmS l a + 6 + szS l a + 1 + (cnS l a + 7) / 8 + 2 - 2) (by omega)) rfl rfl rfl) rfl rfl ?_
            rw [show a + (2 + nmS l a + 6 + szS l a + 1 + (cnS l a + 7) / 8 + 2 - 2) = eS l a - 2 by omega]
            refine XR_a (op_convI (k' := .i64) rfl rfl (by have := lv1 l (eS l a - 2); simp only [inK]; omega)) rfl rfl ?_
            first | refine XR_a (op_field0 rfl rfl) rfl rfl ?_ | refine XR_a (op_fieldn rfl rfl) rfl rfl ?_
            first | refine XR_a (op_field0 rfl rfl) rfl rfl ?_ | refine XR_a (op_fieldn rfl rfl) rfl rfl ?_
            refine XR_wn (opl_store_pt st 0 rfl rfl rfl rfl rfl (rfl)) rfl rfl fun _ hp st => ?_
            simp only [List.set_cons_zero, List.set_cons_succ] at st
            refine XR_nil ?_
            refine X_seq ?_
            refine X_reg ?_
            refine XR_a (op_move rfl) rfl rfl ?_
            refine XR_a (op_move rfl) rfl rfl ?_
            first | refine XR_a (op_subN (n := 1) rfl rfl (by omega) (by simp only [inK]; omega)) rfl rfl ?_ | refine XR_a (op_subI rfl rfl (by simp only [inK]; omega)) rfl rfl ?_ | refine XR_a (op_sub rfl rfl) rfl rfl ?_
            refine XR_a (op_index1 (i := 2 + nmS l a + 6 + szS l a + 1 + (cnS l a + 7) / 8 + 2 - 1) rfl rfl rfl (by omega)) rfl rfl ?_
            refine XR_a (op_ld (hci st.low (2 + nmS l a + 6 + szS l a + 1 + (cnS l a + 7) / 8 + 2 - 1) (by omega)) rfl rfl rfl) rfl rfl ?_
            first | refine XR_a (op_field0 rfl rfl) rfl rfl ?_ | refine XR_a (op_fieldn rfl rfl) rfl rfl ?_
            first | refine XR_a (op_field0 rfl rfl) rfl rfl ?_ | refine XR_a (op_fieldn rfl rfl) rfl rfl ?_
            refine XR_wn (opl_store_pt st 0 rfl rfl rfl rfl rfl (rfl)) rfl rfl fun _ hp st => ?_
            simp only [List.set_cons_zero, List.set_cons_succ] at st
            refine XR_nil ?_
            refine X_seq ?_
            refine X_seq ?_
            refine X_reg ?_
            refine XR_a (op_assign rfl) rfl rfl ?_
            refine XR_nil ?_
            refine X_block ?_
            rw [show a + (2 + nmS l a + 6 + szS l a + 1 + (cnS l a + 7) / 8 + 2 - 1) = eS l a - 1 by omega, Nat.add_zero] at st
            obtain ⟨D, hD⟩ : ∃ D, 2 + nmS l a + 6 + szS l a = D := ⟨_, rfl⟩
            rw [hD]
            replace st := (st.nilrow 4 1).re 3 [1, 2, 0] (by decide)
            simp only [List.map_cons, List.map_nil, getR] at st
            refine X_loop (fun s => cnS l a - s.1) (fun s => [(1, nV a), (4, .pointer (some ⟨p4, 0, none⟩)), (7, .pointer (some ⟨p7, 0, none⟩)), (8, .slice (some ⟨g, o, none⟩) (m - a) (c - a)), (11, nV D), (12, nV (cnS l a)), (13, nV (D + 1 + (cnS l a + 7) / 8 + 2)), (14, nV s.1)])
              (fun (s : Nat × Value) hp => s.1 ≤ cnS l a ∧ St h0.size h0 hp [pt p7 37 [nV (lv l a 1), .string (str (stepAt l a).name), .slice Ad nd cd, .int .i64 (stepAt l a).n, s.2, nV (lv l (eS l a - 2) 1), .int .u8 ((lv l (eS l a - 1) 1 : Nat) : Int)], pt p4 37 (stC ⟨0, [], [], 0, [], 0, 0⟩ (.slice none 0 0) (.slice none 0 0)), row 4 1 s.2 (((bitsB (kbS l a)).take s.1).map Value.bool)])
              (0, _) (.cons rfl (.cons rfl (.cons rfl (.cons rfl (.cons rfl (.cons rfl (.cons rfl (.cons rfl (.nil _))))))))) ⟨Nat.zero_le _, st⟩ ?_
            clear st
            rintro ⟨i, kv⟩ hp9 ⟨hi, st⟩
            simp only at hi st ⊢
            refine X_seq ?_
            refine X_seq ?_
            refine X_reg ?_
            refine XR_a (op_move rfl) rfl rfl ?_
            refine XR_a (op_move rfl) rfl rfl ?_
            refine XR_a (op_lss rfl rfl) rfl rfl ?_
            refine XR_nil ?_
            refine X_if rfl (fun h => ?_) (fun h => ?_)
            · have hi9 : i < cnS l a := by omega
              have hkbl : (kbS l a).length = (cnS l a + 7) / 8 := by unfold kbS; rw [List.length_take, List.length_drop]; omega
              have hbl := bitsB_length (kbS l a)
              have hib : i < (bitsB (kbS l a)).length := by omega
              have hb := bitsB_bit hib
              have hlk : lv (kbS l a) (i / 8) 1 = lv l (a + (D + 1 + i / 8)) 1 := by
                rw [lv_byte (by omega), lv_byte (by omega)]
                unfold kbS
                rw [List.getElem_take, List.getElem_drop]
                congr 2
                omega
              rw [hlk] at hb
              have htk : (bitsB (kbS l a)).take (i + 1) = (bitsB (kbS l a)).take i ++ [(bitsB (kbS l a))[i]] := List.take_succ_eq_append_getElem hib
              obtain ⟨x, hx⟩ : ∃ x, lv l (a + (D + 1 + i / 8)) 1 = x := ⟨_, rfl⟩
              have hx1 := lv1 l (a + (D + 1 + i / 8))
              rw [hx] at hb hx1
              refine X_skip ?_
              refine X_seq ?_
              refine X_block ?_
              refine X_seq ?_
              refine X_reg ?_
              refine XR_a (op_move rfl) rfl rfl ?_
              refine XR_a (op_move rfl) rfl rfl ?_
              first | refine XR_a (op_addN (n := 1) rfl rfl (by simp only [inK]; omega)) rfl rfl ?_ | refine XR_a (op_addI rfl rfl (by simp only [inK]; omega)) rfl rfl ?_ | refine XR_a (op_add rfl rfl) rfl rfl ?_
              refine XR_a (op_move rfl) rfl rfl ?_
              first | refine XR_a (op_quoN (n := 8) rfl rfl (by omega) (by simp only [inK]; omega)) rfl rfl ?_ | refine XR_a (op_quoI rfl rfl (by omega) (by omega) (by simp only [inK]; omega)) rfl rfl ?_ | refine XR_a (op_quo rfl rfl (by omega)) rfl rfl ?_
              first | refine XR_a (op_addN rfl rfl (by simp only [inK]; omega)) rfl rfl ?_ | refine XR_a (op_addI rfl rfl (by simp only [inK]; omega)) rfl rfl ?_ | refine XR_a (op_add rfl rfl) rfl rfl ?_
              refine XR_a (op_index1 (i := D + 1 + i / 8) rfl rfl rfl (by omega)) rfl rfl ?_
              refine XR_a (op_ld (hci st.low (D + 1 + i / 8) (by omega)) rfl rfl rfl) rfl rfl ?_
              rw [hx]
              refine XR_a (op_convI (k' := .i64) rfl rfl (by simp only [inK]; omega)) rfl rfl ?_
              refine XR_a (op_assign rfl) rfl rfl ?_
              refine XR_nil ?_
              refine X_seq ?_
              refine X_seq ?_
              refine X_reg ?_
              refine XR_a (op_assign rfl) rfl rfl ?_
              refine XR_nil ?_
              refine X_block ?_
              refine X_loop (fun j => i % 8 - j) (fun j => [(1, nV a), (4, .pointer (some ⟨p4, 0, none⟩)), (7, .pointer (some ⟨p7, 0, none⟩)), (8, .slice (some ⟨g, o, none⟩) (m - a) (c - a)), (11, nV D), (12, nV (cnS l a)), (13, nV (D + 1 + (cnS l a + 7) / 8 + 2)), (14, nV i), (15, nV (x / 2 ^ j)), (16, nV j)])
                (fun (j : Nat) hp => hp = hp9 ∧ j ≤ i % 8) 0 (.cons rfl (.cons rfl (.cons rfl (.cons rfl (.cons rfl (.cons rfl (.cons rfl (.cons rfl (.cons (by rw [Nat.pow_zero, Nat.div_one]; rfl) (.cons rfl (.nil _))))))))))) ⟨rfl, Nat.zero_le _⟩ ?_
              rintro j hp10 ⟨rfl, hj⟩
              have hxj : x / 2 ^ j ≤ x := Nat.div_le_self _ _
              refine X_seq ?_
              refine X_seq ?_
              refine X_reg ?_
              refine XR_a (op_move rfl) rfl rfl ?_
              refine XR_a (op_move rfl) rfl rfl ?_
              first | refine XR_a (op_remN (n := 8) rfl rfl (by omega)) rfl rfl ?_ | refine XR_a (op_remI rfl rfl (by omega) (by omega)) rfl rfl ?_ | refine XR_a (op_rem rfl rfl (by omega)) rfl rfl ?_
              refine XR_a (op_lss rfl rfl) rfl rfl ?_
              refine XR_nil ?_
              refine X_if rfl (fun h => ?_) (fun h => ?_)
              · refine X_skip ?_
                refine X_seq ?_
                refine X_block ?_
                refine X_reg ?_
                refine XR_a (op_move rfl) rfl rfl ?_
                refine XR_a (op_quoN (m := x / 2 ^ j) (n := 2) rfl rfl (by omega) (by generalize x / 2 ^ j = y at hxj ⊢; simp only [inK]; omega)) rfl rfl ?_
                refine XR_a (op_assign rfl) rfl rfl ?_
                refine XR_nil ?_
                refine X_blk ?_
                refine X_reg ?_
                refine XR_a (op_move rfl) rfl rfl ?_
                first | refine XR_a (op_addN (n := 1) rfl rfl (by simp only [inK]; omega)) rfl rfl ?_ | refine XR_a (op_addI rfl rfl (by simp only [inK]; omega)) rfl rfl ?_ | refine XR_a (op_add rfl rfl) rfl rfl ?_
                refine XR_a (op_assign rfl) rfl rfl ?_
                refine XR_nil ?_
                exact X_again (j + 1) (.cons rfl (.cons rfl (.cons rfl (.cons rfl (.cons rfl (.cons rfl (.cons rfl (.cons rfl (.cons (by rw [Nat.pow_succ, ← Nat.div_div_eq_div_mul]; rfl) (.cons rfl (.nil _))))))))))) ⟨rfl, by omega⟩ (by omega)
              · refine X_exit rfl ?_
                obtain rfl : j = i % 8 := by omega
                refine X_reg ?_
                first | refine XR_a (op_field0 rfl rfl) rfl rfl ?_ | refine XR_a (op_fieldn rfl rfl) rfl rfl ?_
                first | refine XR_a (op_field0 rfl rfl) rfl rfl ?_ | refine XR_a (op_fieldn rfl rfl) rfl rfl ?_
                refine XR_a (op_ld (st.cell 0 (i := 4) rfl rfl) rfl rfl rfl) rfl rfl ?_
                refine XR_a (op_move rfl) rfl rfl ?_
                first | refine XR_a (op_remN (n := 2) rfl rfl (by omega)) rfl rfl ?_ | refine XR_a (op_remI rfl rfl (by omega) (by omega)) rfl rfl ?_ | refine XR_a (op_rem rfl rfl (by omega)) rfl rfl ?_
                refine XR_a (op_eql rfl rfl) rfl rfl ?_
                refine XR_as (.bool (bitsB (kbS l a))[i]) (by
                  generalize x / 2 ^ (i % 8) = y at hb ⊢
                  generalize (bitsB (kbS l a))[i] = b at hb ⊢
                  cases b
                  · exact congrArg Value.bool (decide_eq_false (by rw [Bool.toNat_false] at hb; omega))
                  · exact congrArg Value.bool (decide_eq_true (by rw [Bool.toNat_true] at hb; omega))) ?_
                refine XR_wa (opl_var1 rfl rfl rfl) rfl rfl rfl ?_
                rintro _ hp ⟨A, rfl, hx, hrd⟩
                have st := st.ext hx
                refine XR_wa (opl_append st 2 rfl (hrd) (rfl) (by intro u hu; simp at hu; subst hu; rfl) (by simp; omega) rfl rfl rfl rfl rfl rfl rfl) rfl rfl rfl fun v hp st => ?_
                simp only [List.set_cons_zero, List.set_cons_succ] at st
                rw [show [Value.bool (bitsB (kbS l a))[i]] = [(bitsB (kbS l a))[i]].map Value.bool from rfl, ← List.map_append, ← htk] at st
                obtain ⟨A7, n7, c7, rfl, _⟩ := st.row 2 rfl
                first | refine XR_a (op_field0 rfl rfl) rfl rfl ?_ | refine XR_a (op_fieldn rfl rfl) rfl rfl ?_
                first | refine XR_a (op_field0 rfl rfl) rfl rfl ?_ | refine XR_a (op_fieldn rfl rfl) rfl rfl ?_
                refine XR_wn (opl_store_pt st 0 rfl rfl rfl rfl rfl (rfl)) rfl rfl fun _ hp st => ?_
                simp only [List.set_cons_zero, List.set_cons_succ] at st
                refine XR_nil ?_
                refine X_blk ?_
                refine X_reg ?_
                refine XR_a (op_move rfl) rfl rfl ?_
                first | refine XR_a (op_addN (n := 1) rfl rfl (by simp only [inK]; omega)) rfl rfl ?_ | refine XR_a (op_addI rfl rfl (by simp only [inK]; omega)) rfl rfl ?_ | refine XR_a (op_add rfl rfl) rfl rfl ?_
                refine XR_a (op_assign rfl) rfl rfl ?_
                refine XR_nil ?_
                exact X_again (i + 1, _) (.cons rfl (.cons rfl (.cons rfl (.cons rfl (.cons rfl (.cons rfl (.cons rfl (.cons rfl (.nil _))))))))) ⟨hi9, st⟩ (by simp only; omega)
            · obtain rfl : i = cnS l a := by omega
              obtain ⟨Ak, nk, ck, rfl, hkl, hkc, _⟩ := st.row 2 rfl
              have hkbl : (kbS l a).length = (cnS l a + 7) / 8 := by unfold kbS; rw [List.length_take, List.length_drop]; omega
              have hbl := bitsB_length (kbS l a)
              rw [List.length_map, List.length_take, Nat.mul_one] at hkl
              have hdl : (stepAt l a).data.length = nd := by simp only [stepAt]; rw [List.length_take, List.length_drop]; omega
              have hkl2 : (stepAt l a).keep.length = nk := by simp only [stepAt]; rw [List.length_take]; omega
              have hfill : byteV (stepAt l a).fill = .int .u8 ((lv l (eS l a - 1) 1 : Nat) : Int) := by
                have := lv1 l (eS l a - 1)
                simp only [stepAt, byteV]
                congr 1
                rw [UInt8.toNat_ofNat', Nat.mod_eq_of_lt (by omega)]
              have hcs : [nV (lv l a 1), Value.string (str (stepAt l a).name), .slice Ad nd cd, .int .i64 (stepAt l a).n, .slice Ak nk ck, nV (lv l (eS l a - 2) 1), .int .u8 ((lv l (eS l a - 1) 1 : Nat) : Int)] = stC (stepAt l a) (.slice Ad (stepAt l a).data.length cd) (.slice Ak (stepAt l a).keep.length ck) := by
                rw [stC, hfill, hdl, hkl2]; rfl
              rw [hcs] at st
              have hok : okT31 l a ↔ (stepAt l a).right ∧ numB (bitsB (kbS l a)) (cnS l a) 8 = 0 := Iff.rfl
              have hpk := pack_take (kb := kbS l a) hkbl
              have hone : oneE l a = if okT31 l a then 0 else 3 := by unfold oneE; rw [if_neg (by omega)]
              have hcut4 := hcut.cut (D + 1) 1 (c - a) ((cnS l a + 7) / 8) (by intro hh; simp; omega)
              rw [Nat.mul_one, ← List.map_drop, ← List.map_take, List.drop_drop, show a + (D + 1) = dS l a + 1 by omega, show ((l.drop (dS l a + 1)).take ((cnS l a + 7) / 8)) = kbS l a from rfl] at hcut4
              refine X_exit rfl ?_
              refine X_seq ?_
              refine X_seq ?_
              refine X_draw_in (butAt [(1, .grow), (7, .grow)]) [0, 1, 2, 3, 4, 5, 6, 9, 10, 11, 12, 13, 14, 15, 7, 8, 16, 17] (by kernel_rfl) (by kernel_rfl) rfl ?_
              refine XR_a (op_ldA (vs := stC (stepAt l a) (.slice Ad (stepAt l a).data.length cd) (.slice Ak (stepAt l a).keep.length ck)) (st.cells 0 rfl) rfl rfl rfl rfl) rfl rfl ?_
              refine XR_ga (opl_call (right31_ref _ _ _ _ _ _) rfl (by kernel_rfl)) rfl rfl rfl (fun _ _ h => h.2) ?_
              rintro _ hp ⟨rfl, hE5⟩
              replace st := st.ext hE5
              first | refine XR_a (op_notd rfl) rfl rfl ?_ | refine XR_a (op_not rfl) rfl rfl ?_
              refine XR_a (op_move rfl) rfl rfl ?_
              refine XR_if 146 rfl (fun h => ?_) (fun h => ?_)
              · refine XR_no rfl rfl ?_
                refine XR_no rfl rfl ?_
                refine XR_no rfl rfl ?_
                refine XR_no rfl rfl ?_
                refine XR_no rfl rfl ?_
                refine XR_no rfl rfl ?_
                refine XR_no rfl rfl ?_
                refine XR_no rfl rfl ?_
                refine XR_no rfl rfl ?_
                refine XR_no rfl rfl ?_
                refine XR_no rfl rfl ?_
                refine XR_no rfl rfl ?_
                refine XR_no rfl rfl ?_
                refine XR_a (op_pick_t rfl rfl) rfl rfl ?_
                refine XR_nil ?_
                refine X_then rfl ?_
                refine X_seq ?_
                refine X_reg ?_
                refine XR_a (op_build (ps := []) (cs := (stC ⟨0, [], [], 0, [], 0, 0⟩ (.slice none 0 0) (.slice none 0 0)).toArray) rfl rfl) rfl rfl ?_
                refine XR_wn (opl_store_whole (us := stC ⟨0, [], [], 0, [], 0, 0⟩ (.slice none 0 0) (.slice none 0 0)) st 1 rfl rfl rfl rfl rfl (one_stC _ rfl rfl) rfl) rfl rfl fun _ hp st => ?_
                simp only [List.set_cons_zero, List.set_cons_succ] at st
                refine XR_a (op_assign rfl) rfl rfl ?_
                refine XR_a (op_assign rfl) rfl rfl ?_
                refine XR_nil ?_
                refine X_ret (.cons (RV_agg (vs := stC ⟨0, [], [], 0, [], 0, 0⟩ (.slice none 0 0) (.slice none 0 0)) rfl rfl rfl (st.cells 1 rfl)) (.cons (.tmp rfl) (.cons (.tmp rfl) .nil))) ?_
                have hnr : ¬ (stepAt l a).right := by simpa using h
                rw [if_neg (fun h9 => hnr (hok.1 h9).1)] at hone
                exact ⟨⟨0, [], [], 0, [], 0, 0⟩, .slice none 0 0, .slice none 0 0, 0, [], by rw [hone]; rfl, ⟨rfl, rfl⟩, fun h9 => by omega, st.drop⟩
              · first | refine XR_a (op_field0 rfl rfl) rfl rfl ?_ | refine XR_a (op_fieldn rfl rfl) rfl rfl ?_
                first | refine XR_a (op_field0 rfl rfl) rfl rfl ?_ | refine XR_a (op_fieldn rfl rfl) rfl rfl ?_
                refine XR_a (op_ld (st.cell 0 (i := 4) rfl rfl) rfl rfl rfl) rfl rfl ?_
                refine XR_a (op_move rfl) rfl rfl ?_
                refine XR_a (op_move rfl) rfl rfl ?_
                first | refine XR_a (op_addN (n := 1) rfl rfl (by simp only [inK]; omega)) rfl rfl ?_ | refine XR_a (op_addI rfl rfl (by simp only [inK]; omega)) rfl rfl ?_ | refine XR_a (op_add rfl rfl) rfl rfl ?_
                refine XR_a (op_move rfl) rfl rfl ?_
                first | refine XR_a (op_subN (n := 2) rfl rfl (by omega) (by simp only [inK]; omega)) rfl rfl ?_ | refine XR_a (op_subI rfl rfl (by simp only [inK]; omega)) rfl rfl ?_ | refine XR_a (op_sub rfl rfl) rfl rfl ?_
                refine XR_a (op_slice rfl rfl rfl rfl (by omega) (by omega)) rfl rfl ?_
                refine XR_a (op_str (l := kbS l a) (hcut4.ext st.low) rfl (by omega) rfl rfl rfl) rfl rfl ?_
                refine XR_ga (opl_call (keep31_ref (ks := (stepAt l a).keep) (st.rdS 2 rfl).2 rfl (by omega)) rfl (by kernel_rfl)) rfl rfl rfl (fun _ _ h => h.low) ?_
                rintro v5 hp st5
                replace st := st.join st5
                simp only [List.cons_append, List.nil_append] at st
                obtain ⟨Ap, np, cp, rfl, hpl, _⟩ := st.row 0 rfl
                refine XR_a (op_str (l := pack (stepAt l a).keep) (st.rdS 0 rfl).2 rfl (by rw [List.length_map] at hpl; omega) rfl rfl rfl) rfl rfl ?_
                refine XR_a (op_neqS rfl rfl) rfl rfl ?_
                refine XR_a (op_pick_f rfl rfl) rfl rfl ?_
                refine XR_nil ?_
                refine X_if rfl (fun h => ?_) (fun h => ?_)
                · refine X_seq ?_
                  refine X_reg ?_
                  refine XR_a (op_build (ps := []) (cs := (stC ⟨0, [], [], 0, [], 0, 0⟩ (.slice none 0 0) (.slice none 0 0)).toArray) rfl rfl) rfl rfl ?_
                  refine XR_wn (opl_store_whole (us := stC ⟨0, [], [], 0, [], 0, 0⟩ (.slice none 0 0) (.slice none 0 0)) st 2 rfl rfl rfl rfl rfl (one_stC _ rfl rfl) rfl) rfl rfl fun _ hp st => ?_
                  simp only [List.set_cons_zero, List.set_cons_succ] at st
                  refine XR_a (op_assign rfl) rfl rfl ?_
                  refine XR_a (op_assign rfl) rfl rfl ?_
                  refine XR_nil ?_
                  refine X_ret (.cons (RV_agg (vs := stC ⟨0, [], [], 0, [], 0, 0⟩ (.slice none 0 0) (.slice none 0 0)) rfl rfl rfl (st.cells 2 rfl)) (.cons (.tmp rfl) (.cons (.tmp rfl) .nil))) ?_
                  rw [if_neg (fun h9 => by have := hpk.2 (hok.1 h9).2; simp only [stepAt] at h; simp_all)] at hone
                  exact ⟨⟨0, [], [], 0, [], 0, 0⟩, .slice none 0 0, .slice none 0 0, 0, [], by rw [hone]; rfl, ⟨rfl, rfl⟩, fun h9 => by omega, st.drop⟩
                · refine X_skip ?_
                  refine X_seq ?_
                  refine X_reg ?_
                  refine XR_a (op_ldA (vs := stC (stepAt l a) (.slice Ad (stepAt l a).data.length cd) (.slice Ak (stepAt l a).keep.length ck)) (st.cells 1 rfl) rfl rfl rfl rfl) rfl rfl ?_
                  refine XR_a (op_move rfl) rfl rfl ?_
                  refine XR_a (op_move rfl) rfl rfl ?_
                  first | refine XR_a (op_addN rfl rfl (by simp only [inK]; omega)) rfl rfl ?_ | refine XR_a (op_addI rfl rfl (by simp only [inK]; omega)) rfl rfl ?_ | refine XR_a (op_add rfl rfl) rfl rfl ?_
                  refine XR_wn (opl_store_whole (us := stC (stepAt l a) (.slice Ad (stepAt l a).data.length cd) (.slice Ak (stepAt l a).keep.length ck)) st 2 rfl rfl rfl rfl rfl (one_stC _ rfl rfl) rfl) rfl rfl fun _ hp st => ?_
                  simp only [List.set_cons_zero, List.set_cons_succ] at st
                  refine XR_a (op_assign rfl) rfl rfl ?_
                  refine XR_a (op_assign rfl) rfl rfl ?_
                  refine XR_nil ?_
                  refine X_ret (.cons (RV_agg (vs := stC (stepAt l a) (.slice Ad (stepAt l a).data.length cd) (.slice Ak (stepAt l a).keep.length ck)) rfl rfl rfl (st.cells 2 rfl)) (.cons (.tmp rfl) (.cons (.tmp rfl) .nil))) ?_
                  have hz : numB (bitsB (kbS l a)) (cnS l a) 8 = 0 := hpk.1 (Classical.not_not.1 ‹¬ pack (stepAt l a).keep ≠ kbS l a›)
                  rw [if_pos (hok.2 ⟨by simp_all, hz⟩)] at hone
                  subst hkl2
                  exact ⟨stepAt l a, _, _, eS l a, _, by rw [hone, show a + (D + 1 + (cnS l a + 7) / 8 + 2) = eS l a by omega]; rfl, ⟨rfl, rfl⟩, fun _ => ⟨rfl, rfl, ⟨Ad, _, cd, rfl, rfl, hcut3⟩, List.mem_singleton.2 rfl⟩, st.tail.tail.tail⟩
end Go.Bn
