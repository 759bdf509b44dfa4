/- The contract of script's reader.one. -/
import Derived.Test.YtpkhilbgkkjebaaPScript
set_option linter.unusedVariables false
set_option linter.unusedSimpArgs false
set_option maxHeartbeats 4000000
set_option maxRecDepth 20000
namespace Go.Bn
open Go Proofs

theorem one_stC (s : Stp) {dv kv : Value} (hd : Value.one dv = true) (hk : Value.one kv = true) : ∀ u ∈ stC s dv kv, Value.one u = true := by
  intro u hu
  simp only [stC, List.mem_cons, List.not_mem_nil, or_false] at hu
  rcases hu with rfl | rfl | rfl | rfl | rfl | rfl | rfl <;> first | rfl | assumption

theorem snum_at {B p m c a w : Nat} {k : Int} {A : Option Addr} {l : List UInt8} {F : List Res} {h0 : Heap} (hw : wid k = w) (st0 : St B h0 h0 (fdG p A m c a false :: F)) (hr : ∀ h', Low B h0 h' → Rd h' A (l.map byteV)) (hl : l.length = m) (hm : m ≤ 1099511627776) (ha : a ≤ m) :
    RetP Try.prog 24 [.agg #[.pointer (some ⟨p, 0, none⟩)], .int .i64 k] h0 (fun v h' => a + w ≤ m ∧ v = nV (lv l a w) ∧ St B h0 h' (fdG p A m c (a + w) false :: F))
      (fun ch h' => m < a + w ∧ ch = shortC ∧ St B h0 h' F) := by
  subst hw
  refine (snum_spec st0 hr hl hm ha fun n hn => getF_lt hn).mono ?_ ?_
  · rintro v h' ⟨n, hg, rfl, st⟩
    rcases Nat.lt_or_ge m (a + wid k) with h9 | h9
    · unfold getF at hg
      rw [if_neg (by omega)] at hg
      cases hg
    · rw [getF_at (by omega)] at hg
      cases hg
      exact ⟨h9, rfl, st⟩
  · rintro ch h' ⟨hg, rfl, hlo⟩
    refine ⟨?_, rfl, hlo⟩
    rcases Nat.lt_or_ge m (a + wid k) with h9 | h9
    · exact h9
    · rw [getF_at (by omega)] at hg
      cases hg

theorem sone_spec {B p m c a : Nat} {A : Option Addr} {l : List UInt8} {F : List Res} {h0 : Heap} (st0 : St B h0 h0 (fdG p A m c a false :: F)) (hr : ∀ h', Low B h0 h' → Rd h' A (l.map byteV)) (hl : l.length = m) (hm : m ≤ 1073741824) (hmc : m ≤ c) (ha : a ≤ m) :
    RetP Try.prog 25 [.agg #[.pointer (some ⟨p, 0, none⟩)]] h0
      (fun v h' => ∃ dv kv s dv' kv', oneE l a ≠ 2 ∧ eS l a ≤ m ∧ v = retVal [.agg (stC s dv' kv').toArray, nV (oneE l a)] ∧ (Value.one dv' = true ∧ Value.one kv' = true) ∧ (oneE l a = 0 → s = stepAt l a ∧ dv' = dv ∧ kv' = kv) ∧
        St B h0 h' (fdG p A m c (eS l a) false :: row 5 1 dv ((stepAt l a).data.map byteV) :: row 4 1 kv ((stepAt l a).keep.map Value.bool) :: F))
      (fun ch h' => oneE l a = 2 ∧ ch = shortC ∧ St B h0 h' F) := by
  have he := eS_eq l a
  have hd := dS_eq l a
  have hk := kS_eq l a
  have hnm := nmS_lt l a
  have hsz := szS_lt l a
  have hcn := cnS_lt l a
  refine retP_of_X Try.func25 rfl rfl fun w0 hw0 => ?_
  simp only [argE, Nat.zero_add, Nat.reduceAdd]
  refine X_seq ?_
  refine X_reg ?_
  refine XR_wa (opl_bx (cs := [.pointer (some ⟨p, 0, none⟩)]) rfl rfl) rfl rfl rfl ?_
  rintro _ hp ⟨p1, rfl, hnew⟩
  have st := st0.new hnew
  refine XR_wa (opl_new rfl) rfl rfl rfl ?_
  rintro _ hp ⟨p2, rfl, hnew⟩
  replace st := st.new hnew
  refine XR_a (op_assign rfl) rfl rfl ?_
  refine XR_nil ?_
  refine X_seq ?_
  refine X_reg ?_
  refine XR_wa (opl_new rfl) rfl rfl rfl ?_
  rintro _ hp ⟨p4, rfl, hnew⟩
  replace st := St.reF [_, _, _, _] 4 (st.new hnew) [3, 0, 2, 1] (by decide)
  simp only [List.map_cons, List.map_nil, getR, List.cons_append, List.nil_append] at st
  refine XR_nil ?_
  refine X_seq ?_
  refine X_reg ?_
  refine XR_a (op_ldA (vs := [.pointer (some ⟨p, 0, none⟩)]) (st.cells 2 rfl) rfl rfl rfl rfl) rfl rfl ?_
  refine XR_wap [] (opl_callP (snum_at (w := 1) (k := 1) rfl st.here (fun h' hl' => hr _ (st.low.trans hl')) hl (by omega) ha) rfl (by kernel_rfl)) rfl rfl rfl (Sub.nil _) (fun _ => rfl) (by rintro _ _ ⟨h1, rfl, h3⟩; refine XP_plain ?_; exact ⟨oneE_short (by omega), rfl, by first | exact (st.trans h3).tail.tail.tail | exact (st.trans h3).tail.tail.tail.tail | exact (st.trans h3).tail.tail.tail.tail.tail⟩) ?_
  rintro _ hp3 ⟨hf1, rfl, st3⟩
  replace st := st.trans st3
  replace st : St B h0 hp3 (fdG p A m c (a + 1) false :: pt p4 37 [nV 0, .string (str []), .slice none 0 0, nV 0, .slice none 0 0, nV 0, .int .u8 0] :: pt p1 54 [.pointer (some ⟨p, 0, none⟩)] :: pt p2 37 [nV 0, .string (str []), .slice none 0 0, nV 0, .slice none 0 0, nV 0, .int .u8 0] :: F) := st
  first | refine XR_a (op_field0 rfl rfl) rfl rfl ?_ | refine XR_a (op_fieldn rfl rfl) rfl rfl ?_
  refine XR_wn (opl_store_pt st 1 rfl rfl rfl rfl rfl (rfl)) rfl rfl fun _ hp st => ?_
  simp only [List.set_cons_zero, List.set_cons_succ] at st
  obtain ⟨zz, hzz⟩ : ∃ zz, [nV 0, .string (str []), .slice none 0 0, nV 0, .slice none 0 0, nV 0, .int .u8 0] = zz := ⟨_, rfl⟩
  have hzl : 7 = zz.length := by rw [← hzz]; rfl
  refine XR_nil ?_
  refine X_seq ?_
  refine X_draw_two byKind [1] 0 [2, 3, 4, 5, 6] 2 [0, 3, 4, 5, 6] (by kernel_rfl) (by kernel_rfl) rfl rfl rfl ?_
  refine XR_a (op_ldA (vs := [.pointer (some ⟨p, 0, none⟩)]) (st.cells 2 rfl) rfl rfl rfl rfl) rfl rfl ?_
  refine XR_nil ?_
  refine X_alt (σ := Unit) (fun _ => [(1, .pointer (some ⟨p1, 0, none⟩)), (2, .pointer (some ⟨p2, 0, none⟩)), (3, nV 0), (4, .pointer (some ⟨p4, 0, none⟩))])
    (fun _ hp => kS l a ≤ m ∧ St B h0 hp (fdG p A m c (kS l a) false :: pt p4 37 [nV (lv l a 1), .string (str (stepAt l a).name), .slice none 0 0, nV 0, .slice none 0 0, nV 0, .int .u8 0] :: pt p1 54 [.pointer (some ⟨p, 0, none⟩)] :: pt p2 37 zz :: F)) ?_ ?_ ?_
  · refine XR_a (op_ldA (vs := [.pointer (some ⟨p, 0, none⟩)]) (st.cells 2 rfl) rfl rfl rfl rfl) rfl rfl ?_
    refine XR_wap [] (opl_callP (snum_at (w := 1) (k := 1) rfl st.here (fun h' hl' => hr _ (st.low.trans hl')) hl (by omega) (by omega)) rfl (by kernel_rfl)) rfl rfl rfl (Sub.nil _) (fun _ => rfl) (by rintro _ _ ⟨h1, rfl, h3⟩; refine XP_plain ?_; exact ⟨oneE_short (by omega), rfl, by first | exact (st.trans h3).tail.tail.tail | exact (st.trans h3).tail.tail.tail.tail | exact (st.trans h3).tail.tail.tail.tail.tail⟩) ?_
    rintro _ hp4 ⟨hf2, rfl, st4⟩
    replace st := st.trans st4
    rw [show lv l (a + 1) 1 = nmS l a from rfl]
    refine XR_wap [] (opl_callP (sbytes_spec (n := nmS l a) st.here (fun h' hl' => hr _ (st.low.trans hl')) hl (by omega) hmc (by omega) (by omega)) rfl (by kernel_rfl)) rfl rfl rfl (Sub.nil _) (fun _ => rfl) (by rintro _ _ ⟨h1, rfl, h3⟩; refine XP_plain ?_; exact ⟨oneE_short (by omega), rfl, by first | exact (st.trans h3).tail.tail.tail | exact (st.trans h3).tail.tail.tail.tail | exact (st.trans h3).tail.tail.tail.tail.tail⟩) ?_
    rintro v hp5 ⟨hf3, st5⟩
    replace st := st.trans st5
    obtain ⟨A5, n5, c5, rfl, hlen5, _, _, hrd5⟩ := st.row 1 rfl
    rw [List.length_map, Nat.mul_one] at hlen5
    refine XR_a (op_str hrd5 rfl hlen5 rfl rfl rfl) rfl rfl ?_
    first | refine XR_a (op_field0 rfl rfl) rfl rfl ?_ | refine XR_a (op_fieldn rfl rfl) rfl rfl ?_
    refine XR_wn (opl_store_pt st 2 rfl rfl rfl rfl rfl (rfl)) rfl rfl fun _ hp st => ?_
    simp only [List.set_cons_zero, List.set_cons_succ] at st
    refine XR_nil ?_
    replace st := (st.perm (List.Perm.swap _ _ _)).tail
    rw [show a + 1 + 1 + nmS l a = kS l a by omega, hzz] at st
    exact X_meet () (.cons rfl (.cons rfl (.cons rfl (.cons rfl (.nil _))))) ⟨by omega, st⟩
  · refine XR_wap [] (opl_callP (snum_at (w := 1) (k := 1) rfl st.here (fun h' hl' => hr _ (st.low.trans hl')) hl (by omega) (by omega)) rfl (by kernel_rfl)) rfl rfl rfl (Sub.nil _) (fun _ => rfl) (by rintro _ _ ⟨h1, rfl, h3⟩; refine XP_plain ?_; exact ⟨oneE_short (by omega), rfl, by first | exact (st.trans h3).tail.tail.tail | exact (st.trans h3).tail.tail.tail.tail | exact (st.trans h3).tail.tail.tail.tail.tail⟩) ?_
    rintro _ hp4 ⟨hf2, rfl, st4⟩
    replace st := st.trans st4
    rw [show lv l (a + 1) 1 = nmS l a from rfl]
    refine XR_a (op_ldA (vs := [.pointer (some ⟨p, 0, none⟩)]) (st.cells 2 rfl) rfl rfl rfl rfl) rfl rfl ?_
    refine XR_wap [] (opl_callP (sbytes_spec (n := nmS l a) st.here (fun h' hl' => hr _ (st.low.trans hl')) hl (by omega) hmc (by omega) (by omega)) rfl (by kernel_rfl)) rfl rfl rfl (Sub.nil _) (fun _ => rfl) (by rintro _ _ ⟨h1, rfl, h3⟩; refine XP_plain ?_; exact ⟨oneE_short (by omega), rfl, by first | exact (st.trans h3).tail.tail.tail | exact (st.trans h3).tail.tail.tail.tail | exact (st.trans h3).tail.tail.tail.tail.tail⟩) ?_
    rintro v hp5 ⟨hf3, st5⟩
    replace st := st.trans st5
    obtain ⟨A5, n5, c5, rfl, hlen5, _, _, hrd5⟩ := st.row 1 rfl
    rw [List.length_map, Nat.mul_one] at hlen5
    refine XR_a (op_str hrd5 rfl hlen5 rfl rfl rfl) rfl rfl ?_
    first | refine XR_a (op_field0 rfl rfl) rfl rfl ?_ | refine XR_a (op_fieldn rfl rfl) rfl rfl ?_
    refine XR_wn (opl_store_pt st 2 rfl rfl rfl rfl rfl (rfl)) rfl rfl fun _ hp st => ?_
    simp only [List.set_cons_zero, List.set_cons_succ] at st
    refine XR_nil ?_
    replace st := (st.perm (List.Perm.swap _ _ _)).tail
    rw [show a + 1 + 1 + nmS l a = kS l a by omega, hzz] at st
    exact X_meet () (.cons rfl (.cons rfl (.cons rfl (.cons rfl (.nil _))))) ⟨by omega, st⟩
  rintro ⟨⟩ hp6 ⟨hf4, st⟩
  refine X_seq ?_
  refine X_reg ?_
  refine XR_a (op_ldA (vs := [.pointer (some ⟨p, 0, none⟩)]) (st.cells 2 rfl) rfl rfl rfl rfl) rfl rfl ?_
  refine XR_wap [] (opl_callP (snum_at (w := 2) (k := 2) rfl st.here (fun h' hl' => hr _ (st.low.trans hl')) hl (by omega) (by omega)) rfl (by kernel_rfl)) rfl rfl rfl (Sub.nil _) (fun _ => rfl) (by rintro _ _ ⟨h1, rfl, h3⟩; refine XP_plain ?_; exact ⟨oneE_short (by omega), rfl, by first | exact (st.trans h3).tail.tail.tail | exact (st.trans h3).tail.tail.tail.tail | exact (st.trans h3).tail.tail.tail.tail.tail⟩) ?_
  rintro _ hp7 ⟨hf5, rfl, st7⟩
  replace st := st.trans st7
  have hlv2 := lv2 l (kS l a)
  refine XR_a (op_subI rfl rfl (by simp only [inK]; omega)) rfl rfl ?_
  first | refine XR_a (op_field0 rfl rfl) rfl rfl ?_ | refine XR_a (op_fieldn rfl rfl) rfl rfl ?_
  refine XR_wn (opl_store_pt st 1 rfl rfl rfl rfl rfl (rfl)) rfl rfl fun _ hp st => ?_
  simp only [List.set_cons_zero, List.set_cons_succ] at st
  refine XR_nil ?_
  refine X_seq ?_
  refine X_draw_two byKind [1] 0 [2, 3, 4, 5] 2 [0, 3, 4, 5] (by kernel_rfl) (by kernel_rfl) rfl rfl rfl ?_
  refine XR_a (op_ldA (vs := [.pointer (some ⟨p, 0, none⟩)]) (st.cells 2 rfl) rfl rfl rfl rfl) rfl rfl ?_
  refine XR_nil ?_
  refine X_alt (σ := Value) (fun _ => [(1, .pointer (some ⟨p1, 0, none⟩)), (2, .pointer (some ⟨p2, 0, none⟩)), (3, nV 0), (4, .pointer (some ⟨p4, 0, none⟩))])
    (fun dv hp => dS l a ≤ m ∧ St B h0 hp (fdG p A m c (dS l a) false :: pt p4 37 [nV (lv l a 1), .string (str (stepAt l a).name), dv, .int .i64 (stepAt l a).n, .slice none 0 0, nV 0, .int .u8 0] :: pt p1 54 [.pointer (some ⟨p, 0, none⟩)] :: row 5 1 dv ((stepAt l a).data.map byteV) :: pt p2 37 zz :: F)) ?_ ?_ ?_
  · refine XR_a (op_ldA (vs := [.pointer (some ⟨p, 0, none⟩)]) (st.cells 2 rfl) rfl rfl rfl rfl) rfl rfl ?_
    refine XR_wap [] (opl_callP (snum_at (w := 4) (k := 4) rfl st.here (fun h' hl' => hr _ (st.low.trans hl')) hl (by omega) (by omega)) rfl (by kernel_rfl)) rfl rfl rfl (Sub.nil _) (fun _ => rfl) (by rintro _ _ ⟨h1, rfl, h3⟩; refine XP_plain ?_; exact ⟨oneE_short (by omega), rfl, by first | exact (st.trans h3).tail.tail.tail | exact (st.trans h3).tail.tail.tail.tail | exact (st.trans h3).tail.tail.tail.tail.tail⟩) ?_
    rintro _ hp8 ⟨hf6, rfl, st8⟩
    replace st := st.trans st8
    rw [show lv l (kS l a + 2) 4 = szS l a from rfl]
    refine XR_wap [] (opl_callP (sbytes_spec (n := szS l a) st.here (fun h' hl' => hr _ (st.low.trans hl')) hl (by omega) hmc (by omega) (by omega)) rfl (by kernel_rfl)) rfl rfl rfl (Sub.nil _) (fun _ => rfl) (by rintro _ _ ⟨h1, rfl, h3⟩; refine XP_plain ?_; exact ⟨oneE_short (by omega), rfl, by first | exact (st.trans h3).tail.tail.tail | exact (st.trans h3).tail.tail.tail.tail | exact (st.trans h3).tail.tail.tail.tail.tail⟩) ?_
    rintro v hp9 ⟨hf7, st9⟩
    replace st := st.trans st9
    obtain ⟨Ad, nd, cd, rfl, _⟩ := st.row 1 rfl
    first | refine XR_a (op_field0 rfl rfl) rfl rfl ?_ | refine XR_a (op_fieldn rfl rfl) rfl rfl ?_
    refine XR_wn (opl_store_pt st 2 rfl rfl rfl rfl rfl (rfl)) rfl rfl fun _ hp st => ?_
    simp only [List.set_cons_zero, List.set_cons_succ] at st
    refine XR_nil ?_
    replace st := St.reF [_, _, _, _, _] 5 st [0, 2, 3, 1, 4] (by decide)
    simp only [List.map_cons, List.map_nil, getR, List.cons_append, List.nil_append] at st
    rw [show kS l a + 2 + 4 + szS l a = dS l a by omega] at st
    exact X_meet (.slice Ad nd cd) (.cons rfl (.cons rfl (.cons rfl (.cons rfl (.nil _))))) ⟨by omega, st⟩
  · refine XR_wap [] (opl_callP (snum_at (w := 4) (k := 4) rfl st.here (fun h' hl' => hr _ (st.low.trans hl')) hl (by omega) (by omega)) rfl (by kernel_rfl)) rfl rfl rfl (Sub.nil _) (fun _ => rfl) (by rintro _ _ ⟨h1, rfl, h3⟩; refine XP_plain ?_; exact ⟨oneE_short (by omega), rfl, by first | exact (st.trans h3).tail.tail.tail | exact (st.trans h3).tail.tail.tail.tail | exact (st.trans h3).tail.tail.tail.tail.tail⟩) ?_
    rintro _ hp8 ⟨hf6, rfl, st8⟩
    replace st := st.trans st8
    rw [show lv l (kS l a + 2) 4 = szS l a from rfl]
    refine XR_a (op_ldA (vs := [.pointer (some ⟨p, 0, none⟩)]) (st.cells 2 rfl) rfl rfl rfl rfl) rfl rfl ?_
    refine XR_wap [] (opl_callP (sbytes_spec (n := szS l a) st.here (fun h' hl' => hr _ (st.low.trans hl')) hl (by omega) hmc (by omega) (by omega)) rfl (by kernel_rfl)) rfl rfl rfl (Sub.nil _) (fun _ => rfl) (by rintro _ _ ⟨h1, rfl, h3⟩; refine XP_plain ?_; exact ⟨oneE_short (by omega), rfl, by first | exact (st.trans h3).tail.tail.tail | exact (st.trans h3).tail.tail.tail.tail | exact (st.trans h3).tail.tail.tail.tail.tail⟩) ?_
    rintro v hp9 ⟨hf7, st9⟩
    replace st := st.trans st9
    obtain ⟨Ad, nd, cd, rfl, _⟩ := st.row 1 rfl
    first | refine XR_a (op_field0 rfl rfl) rfl rfl ?_ | refine XR_a (op_fieldn rfl rfl) rfl rfl ?_
    refine XR_wn (opl_store_pt st 2 rfl rfl rfl rfl rfl (rfl)) rfl rfl fun _ hp st => ?_
    simp only [List.set_cons_zero, List.set_cons_succ] at st
    refine XR_nil ?_
    replace st := St.reF [_, _, _, _, _] 5 st [0, 2, 3, 1, 4] (by decide)
    simp only [List.map_cons, List.map_nil, getR, List.cons_append, List.nil_append] at st
    rw [show kS l a + 2 + 4 + szS l a = dS l a by omega] at st
    exact X_meet (.slice Ad nd cd) (.cons rfl (.cons rfl (.cons rfl (.cons rfl (.nil _))))) ⟨by omega, st⟩
  rintro dv hp10 ⟨hf8, st⟩
  refine X_seq ?_
  refine X_reg ?_
  refine XR_a (op_ldA (vs := [.pointer (some ⟨p, 0, none⟩)]) (st.cells 2 rfl) rfl rfl rfl rfl) rfl rfl ?_
  refine XR_wap [] (opl_callP (snum_at (w := 1) (k := 1) rfl st.here (fun h' hl' => hr _ (st.low.trans hl')) hl (by omega) (by omega)) rfl (by kernel_rfl)) rfl rfl rfl (Sub.nil _) (fun _ => rfl) (by rintro _ _ ⟨h1, rfl, h3⟩; refine XP_plain ?_; exact ⟨oneE_short (by omega), rfl, by first | exact (st.trans h3).tail.tail.tail | exact (st.trans h3).tail.tail.tail.tail | exact (st.trans h3).tail.tail.tail.tail.tail⟩) ?_
  rintro _ hp11 ⟨hf9, rfl, st11⟩
  replace st := st.trans st11
  rw [show lv l (dS l a) 1 = cnS l a from rfl]
  refine XR_a (op_assign rfl) rfl rfl ?_
  refine XR_nil ?_
  refine X_seq ?_
  refine X_reg ?_
  refine XR_a (op_ldA (vs := [.pointer (some ⟨p, 0, none⟩)]) (st.cells 2 rfl) rfl rfl rfl rfl) rfl rfl ?_
  refine XR_a (op_move rfl) rfl rfl ?_
  first | refine XR_a (op_addN (n := 7) rfl rfl (by simp only [inK]; omega)) rfl rfl ?_ | refine XR_a (op_addI rfl rfl (by simp only [inK]; omega)) rfl rfl ?_ | refine XR_a (op_add rfl rfl) rfl rfl ?_
  first | refine XR_a (op_quoN (n := 8) rfl rfl (by omega) (by simp only [inK]; omega)) rfl rfl ?_ | refine XR_a (op_quoI rfl rfl (by omega) (by omega) (by simp only [inK]; omega)) rfl rfl ?_ | refine XR_a (op_quo rfl rfl (by omega)) rfl rfl ?_
  refine XR_wap [] (opl_callP (sbytes_spec (n := (cnS l a + 7) / 8) st.here (fun h' hl' => hr _ (st.low.trans hl')) hl (by omega) hmc (by omega) (by omega)) rfl (by kernel_rfl)) rfl rfl rfl (Sub.nil _) (fun _ => rfl) (by rintro _ _ ⟨h1, rfl, h3⟩; refine XP_plain ?_; exact ⟨oneE_short (by omega), rfl, by first | exact (st.trans h3).tail.tail.tail | exact (st.trans h3).tail.tail.tail.tail | exact (st.trans h3).tail.tail.tail.tail.tail⟩) ?_
  rintro v hp12 ⟨hf10, st12⟩
  replace st := st.trans st12
  obtain ⟨A12, n12, c12, rfl, hlen12, _, _, hrd12⟩ := st.row 1 rfl
  have hkbl : (kbS l a).length = (cnS l a + 7) / 8 := by unfold kbS; rw [List.length_take, List.length_drop]; omega
  rw [show ((l.drop (dS l a + 1)).take ((cnS l a + 7) / 8)) = kbS l a from rfl] at st hlen12 hrd12
  rw [List.length_map, hkbl, Nat.mul_one] at hlen12
  obtain rfl : n12 = (cnS l a + 7) / 8 := by omega
  refine XR_a (op_move rfl) rfl rfl ?_
  refine XR_wa (opl_call (entries_spec (n := cnS l a) hrd12 hkbl (by omega) (by omega)) rfl (by kernel_rfl)) rfl rfl rfl ?_
  rintro _ hp13 ⟨kv, rfl, st13⟩
  obtain ⟨Ak, nk, ck, rfl, _⟩ := st13.row 0 rfl
  replace st := st.join st13
  simp only [List.cons_append, List.nil_append] at st
  replace st := St.reF [_, _, _, _, _, _, _] 7 st [2, 1, 3, 4, 5, 0, 6] (by decide)
  simp only [List.map_cons, List.map_nil, getR, List.cons_append, List.nil_append] at st
  replace st := st.tail
  refine XR_a (op_move rfl) rfl rfl ?_
  refine XR_a (op_extract rfl rfl) rfl rfl ?_
  refine XR_a (op_extract rfl rfl) rfl rfl ?_
  refine XR_a (op_assign rfl) rfl rfl ?_
  refine XR_a (op_assign rfl) rfl rfl ?_
  refine XR_nil ?_
  refine X_seq ?_
  refine X_reg ?_
  refine XR_a (op_move rfl) rfl rfl ?_
  first | refine XR_a (op_field0 rfl rfl) rfl rfl ?_ | refine XR_a (op_fieldn rfl rfl) rfl rfl ?_
  first | refine XR_a (op_field0 rfl rfl) rfl rfl ?_ | refine XR_a (op_fieldn rfl rfl) rfl rfl ?_
  refine XR_wn (opl_store_pt st 1 rfl rfl rfl rfl rfl (rfl)) rfl rfl fun _ hp st => ?_
  simp only [List.set_cons_zero, List.set_cons_succ] at st
  refine XR_nil ?_
  refine X_seq ?_
  refine X_reg ?_
  refine XR_a (op_ldA (vs := [.pointer (some ⟨p, 0, none⟩)]) (st.cells 2 rfl) rfl rfl rfl rfl) rfl rfl ?_
  refine XR_wap [] (opl_callP (snum_at (w := 1) (k := 1) rfl st.here (fun h' hl' => hr _ (st.low.trans hl')) hl (by omega) (by omega)) rfl (by kernel_rfl)) rfl rfl rfl (Sub.nil _) (fun _ => rfl) (by rintro _ _ ⟨h1, rfl, h3⟩; refine XP_plain ?_; exact ⟨oneE_short (by omega), rfl, by first | exact (st.trans h3).tail.tail.tail | exact (st.trans h3).tail.tail.tail.tail | exact (st.trans h3).tail.tail.tail.tail.tail⟩) ?_
  rintro _ hp14 ⟨hf11, rfl, st14⟩
  replace st := st.trans st14
  rw [show dS l a + 1 + (cnS l a + 7) / 8 = eS l a - 2 by omega] at st hf11
  rw [show dS l a + 1 + (cnS l a + 7) / 8 = eS l a - 2 by omega]
  first | refine XR_a (op_field0 rfl rfl) rfl rfl ?_ | refine XR_a (op_fieldn rfl rfl) rfl rfl ?_
  first | refine XR_a (op_field0 rfl rfl) rfl rfl ?_ | refine XR_a (op_fieldn rfl rfl) rfl rfl ?_
  refine XR_wn (opl_store_pt st 1 rfl rfl rfl rfl rfl (rfl)) rfl rfl fun _ hp st => ?_
  simp only [List.set_cons_zero, List.set_cons_succ] at st
  refine XR_nil ?_
  refine X_seq ?_
  refine X_reg ?_
  refine XR_a (op_ldA (vs := [.pointer (some ⟨p, 0, none⟩)]) (st.cells 2 rfl) rfl rfl rfl rfl) rfl rfl ?_
  refine XR_wap [] (opl_callP (snum_at (w := 1) (k := 1) rfl st.here (fun h' hl' => hr _ (st.low.trans hl')) hl (by omega) (by omega)) rfl (by kernel_rfl)) rfl rfl rfl (Sub.nil _) (fun _ => rfl) (by rintro _ _ ⟨h1, rfl, h3⟩; refine XP_plain ?_; exact ⟨oneE_short (by omega), rfl, by first | exact (st.trans h3).tail.tail.tail | exact (st.trans h3).tail.tail.tail.tail | exact (st.trans h3).tail.tail.tail.tail.tail⟩) ?_
  rintro _ hp15 ⟨hf12, rfl, st15⟩
  replace st := st.trans st15
  rw [show eS l a - 2 + 1 = eS l a - 1 by omega] at st hf12
  rw [show eS l a - 2 + 1 = eS l a - 1 by omega]
  have hlv1 := lv1 l (eS l a - 1)
  refine XR_a (op_convI (k' := .u8) rfl rfl (by simp only [inK]; omega)) rfl rfl ?_
  refine XR_as (byteV (stepAt l a).fill) (by show Value.int .u8 _ = byteV (UInt8.ofNat _); unfold byteV; congr 1; rw [UInt8.toNat_ofNat']; omega) ?_
  first | refine XR_a (op_field0 rfl rfl) rfl rfl ?_ | refine XR_a (op_fieldn rfl rfl) rfl rfl ?_
  first | refine XR_a (op_field0 rfl rfl) rfl rfl ?_ | refine XR_a (op_fieldn rfl rfl) rfl rfl ?_
  refine XR_wn (opl_store_pt st 1 rfl rfl rfl rfl rfl (rfl)) rfl rfl fun _ hp st => ?_
  simp only [List.set_cons_zero, List.set_cons_succ] at st
  obtain ⟨A9, n9, c9, rfl, hl9, _, _, _⟩ := st.row 3 rfl
  rw [List.length_map, Nat.mul_one] at hl9
  have hl8 := (st.rdS 4 rfl).1
  rw [List.length_map, Nat.mul_one] at hl8
  obtain rfl : n9 = (stepAt l a).data.length := by omega
  obtain rfl : nk = (stepAt l a).keep.length := hl8.symm
  have hne : oneE l a ≠ 2 := by unfold oneE; rw [if_neg (by omega)]; split <;> omega
  have hoe : oneE l a = if okT31 l a then 0 else 3 := by unfold oneE; rw [if_neg (by omega)]
  refine XR_nil ?_
  refine X_seq ?_
  refine X_seq ?_
  refine X_reg ?_
  refine XR_a (op_move rfl) rfl rfl ?_
  refine XR_a (op_not rfl) rfl rfl ?_
  refine XR_as (.bool (decide (numB (bitsB (kbS l a)) (cnS l a) 8 ≠ 0))) (by simp) ?_
  refine XR_a (op_move rfl) rfl rfl ?_
  refine XR_if 52 rfl (fun h => ?_) (fun h => ?_)
  · refine XR_no rfl rfl ?_
    refine XR_no rfl rfl ?_
    refine XR_no rfl rfl ?_
    refine XR_a (op_pick_t rfl rfl) rfl rfl ?_
    refine XR_nil ?_
    refine X_then rfl ?_
    refine X_seq ?_
    refine X_reg ?_
    refine XR_a (op_build (ps := []) (cs := (stC ⟨0, [], [], 0, [], 0, 0⟩ (.slice none 0 0) (.slice none 0 0)).toArray) rfl rfl) rfl rfl ?_
    refine XR_wn (opl_store_whole (us := stC ⟨0, [], [], 0, [], 0, 0⟩ (.slice none 0 0) (.slice none 0 0)) st 5 rfl rfl rfl rfl rfl (one_stC _ rfl rfl) hzl) rfl rfl fun _ hp st => ?_
    simp only [List.set_cons_zero, List.set_cons_succ] at st
    refine XR_a (op_assign rfl) rfl rfl ?_
    refine XR_nil ?_
    refine X_retP (.cons (RV_agg (vs := stC ⟨0, [], [], 0, [], 0, 0⟩ (.slice none 0 0) (.slice none 0 0)) rfl rfl rfl (st.cells 5 rfl)) (.cons (.tmp rfl) .nil)) ?_
    have hno : ¬ okT31 l a := fun h9 => by
      unfold okT31 at h9
      first
        | exact absurd h9.2 (by assumption)
        | exact absurd h9.1 (by assumption)
    rw [hoe, if_neg hno]
    exact ⟨_, _, ⟨0, [], [], 0, [], 0, 0⟩, .slice none 0 0, .slice none 0 0, by omega, by omega, rfl, ⟨rfl, rfl⟩, fun hh => absurd hh (by omega), (St.reF [_, _, _, _, _, _] 6 st [1, 2, 5, 0, 3, 4] (by decide)).tail.tail.tail⟩
  · refine XR_a (op_ldA (vs := stC (stepAt l a) (.slice A9 (stepAt l a).data.length c9) (.slice Ak (stepAt l a).keep.length ck)) (st.cells 1 rfl) rfl rfl rfl rfl) rfl rfl ?_
    refine XR_wa (opl_call (sright_spec (stepAt l a) A9 Ak c9 ck _) rfl (by kernel_rfl)) rfl rfl rfl ?_
    rintro _ hp16 ⟨rfl, hx16⟩
    replace st := st.ext hx16
    refine XR_a (op_not rfl) rfl rfl ?_
    refine XR_as (.bool (decide (¬ (stepAt l a).right))) (by simp) ?_
    refine XR_a (op_pick_f rfl rfl) rfl rfl ?_
    refine XR_nil ?_
    refine X_if rfl (fun h => ?_) (fun h => ?_)
    · refine X_seq ?_
      refine X_reg ?_
      refine XR_a (op_build (ps := []) (cs := (stC ⟨0, [], [], 0, [], 0, 0⟩ (.slice none 0 0) (.slice none 0 0)).toArray) rfl rfl) rfl rfl ?_
      refine XR_wn (opl_store_whole (us := stC ⟨0, [], [], 0, [], 0, 0⟩ (.slice none 0 0) (.slice none 0 0)) st 5 rfl rfl rfl rfl rfl (one_stC _ rfl rfl) hzl) rfl rfl fun _ hp st => ?_
      simp only [List.set_cons_zero, List.set_cons_succ] at st
      refine XR_a (op_assign rfl) rfl rfl ?_
      refine XR_nil ?_
      refine X_retP (.cons (RV_agg (vs := stC ⟨0, [], [], 0, [], 0, 0⟩ (.slice none 0 0) (.slice none 0 0)) rfl rfl rfl (st.cells 5 rfl)) (.cons (.tmp rfl) .nil)) ?_
      have hno : ¬ okT31 l a := fun h9 => by
        unfold okT31 at h9
        first
          | exact absurd h9.2 (by assumption)
          | exact absurd h9.1 (by assumption)
      rw [hoe, if_neg hno]
      exact ⟨_, _, ⟨0, [], [], 0, [], 0, 0⟩, .slice none 0 0, .slice none 0 0, by omega, by omega, rfl, ⟨rfl, rfl⟩, fun hh => absurd hh (by omega), (St.reF [_, _, _, _, _, _] 6 st [1, 2, 5, 0, 3, 4] (by decide)).tail.tail.tail⟩
    · refine X_skip ?_
      refine X_seq ?_
      refine X_reg ?_
      refine XR_a (op_ldA (vs := stC (stepAt l a) (.slice A9 (stepAt l a).data.length c9) (.slice Ak (stepAt l a).keep.length ck)) (st.cells 1 rfl) rfl rfl rfl rfl) rfl rfl ?_
      refine XR_wn (opl_store_whole (us := stC (stepAt l a) (.slice A9 (stepAt l a).data.length c9) (.slice Ak (stepAt l a).keep.length ck)) st 5 rfl rfl rfl rfl rfl (one_stC _ rfl rfl) hzl) rfl rfl fun _ hp st => ?_
      simp only [List.set_cons_zero, List.set_cons_succ] at st
      refine XR_a (op_assign rfl) rfl rfl ?_
      refine XR_nil ?_
      refine X_retP (.cons (RV_agg (vs := stC (stepAt l a) (.slice A9 (stepAt l a).data.length c9) (.slice Ak (stepAt l a).keep.length ck)) rfl rfl rfl (st.cells 5 rfl)) (.cons (.tmp rfl) .nil)) ?_
      have hyes : okT31 l a := ⟨Decidable.not_not.1 (by assumption), Decidable.not_not.1 (by assumption)⟩
      rw [hoe, if_pos hyes]
      exact ⟨_, _, stepAt l a, .slice A9 (stepAt l a).data.length c9, .slice Ak (stepAt l a).keep.length ck, by omega, by omega, rfl, ⟨rfl, rfl⟩, fun _ => ⟨rfl, rfl, rfl⟩, (St.reF [_, _, _, _, _, _] 6 st [1, 2, 5, 0, 3, 4] (by decide)).tail.tail.tail⟩
end Go.Bn
