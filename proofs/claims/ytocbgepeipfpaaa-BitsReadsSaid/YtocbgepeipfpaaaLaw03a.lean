/- The law BitsCut comes to true. -/
import Derived.Test.YtocbgepeipfpaaaBits
set_option linter.unusedVariables false
set_option linter.unusedSimpArgs false
set_option maxHeartbeats 4000000
namespace Go.Bn
open Go Proofs

theorem lives03 (h0 : Heap) : Ret Try.prog 21 [] h0 fun v h' => v = .bool true ∧ Ext h0 h' := by
  refine ret_of_X Try.func21 rfl rfl fun w0 hw0 => ?_
  simp only [argE, Nat.zero_add, Nat.reduceAdd]
  have st := St.start h0
  refine X_seq ?_
  refine X_reg ?_
  refine XR_a (op_assign rfl) rfl rfl ?_
  refine XR_nil ?_
  refine X_seq ?_
  refine X_reg ?_
  refine XR_wa (opl_new rfl) rfl rfl rfl ?_
  rintro _ hp ⟨p, rfl, hnew⟩
  have st := st.new hnew
  replace st := st.wr0
  refine XR_nil ?_
  refine X_seq ?_
  refine X_reg ?_
  refine XR_wa (opl_call (put_spec (n := 5) st.here (by omega) (by simp)) rfl (by kernel_rfl)) rfl rfl rfl ?_
  rintro _ hp ⟨rfl, st2⟩
  replace st := st.trans st2
  refine XR_nil ?_
  refine X_seq ?_
  refine X_reg ?_
  refine XR_wa (opl_call (put_spec (n := 1) st.here (by omega) (by simp [bitsN_length]; have := wd_le 32 3; omega)) rfl (by kernel_rfl)) rfl rfl rfl ?_
  rintro _ hp ⟨rfl, st2⟩
  replace st := st.trans st2
  rw [show [] ++ bitsN (wd 32 3) 5 ++ bitsN (wd 32 1) 1 = [true, false, true, true] by decide] at st
  refine XR_nil ?_
  refine X_seq ?_
  refine X_reg ?_
  refine XR_wa (opl_call (wbytes_spec st.here (by simp)) rfl (by kernel_rfl)) rfl rfl rfl ?_
  rintro v hp st3
  obtain ⟨A3, n3, c3, rfl, hlen3, _, _, hrd3⟩ := st3.row 0 rfl
  replace st := st.ext st3.low
  refine XR_a (op_str hrd3 rfl (by simpa using hlen3) rfl rfl rfl) rfl rfl ?_
  refine XR_a (op_eqlS (b := [13]) rfl rfl) rfl rfl ?_
  refine XR_a (op_move rfl) rfl rfl ?_
  refine XR_if 7 rfl (fun h => ?_) (fun h => ?_)
  · refine XR_wa (opl_call (wlen_spec st.here (by simp)) rfl (by kernel_rfl)) rfl rfl rfl ?_
    rintro _ _ ⟨rfl, rfl⟩
    refine XR_a (op_eql rfl rfl) rfl rfl ?_
    refine XR_a (op_pick_t rfl rfl) rfl rfl ?_
    refine XR_a (op_assign rfl) rfl rfl ?_
    refine XR_nil ?_
    refine X_ret (.cons (.tmp rfl) .nil) ?_
    exact ⟨rfl, st.low⟩
  · exact absurd (by decide) h

theorem bitsCut_ret {n : Nat} {a b : Int} {h0 : Heap} (hn : n < 4294967296) :
    Ret Try.prog 5 [.int .u32 (n : Int), .int .i64 a, .int .i64 b] h0 fun v h' => v = .bool true ∧ Ext h0 h' := by
  refine ret_of_X Try.func5 rfl rfl fun w0 hw0 => ?_
  simp only [argE, Nat.zero_add, Nat.reduceAdd]
  have st := St.start h0
  refine X_seq ?_
  refine X_reg ?_
  refine XR_a (op_assign rfl) rfl rfl ?_
  refine XR_nil ?_
  refine X_seq ?_
  refine X_seq ?_
  refine X_reg ?_
  refine XR_a (op_move rfl) rfl rfl ?_
  refine XR_a (op_lss rfl rfl) rfl rfl ?_
  refine XR_a (op_move rfl) rfl rfl ?_
  refine XR_if 11 rfl (fun h => ?_) (fun h => ?_)
  · refine XR_no rfl rfl ?_
    refine XR_no rfl rfl ?_
    refine XR_a (op_pick_t rfl rfl) rfl rfl ?_
    refine XR_a (op_move rfl) rfl rfl ?_
    refine XR_no rfl rfl ?_
    refine XR_no rfl rfl ?_
    refine XR_a (op_pick_t rfl rfl) rfl rfl ?_
    refine XR_a (op_move rfl) rfl rfl ?_
    refine XR_no rfl rfl ?_
    refine XR_no rfl rfl ?_
    refine XR_no rfl rfl ?_
    refine XR_no rfl rfl ?_
    refine XR_a (op_pick_t rfl rfl) rfl rfl ?_
    refine XR_nil ?_
    refine X_then rfl ?_
    refine X_seq ?_
    refine X_reg ?_
    refine XR_wa (opl_call (lives03 _) rfl (by kernel_rfl)) rfl rfl rfl ?_
    rintro _ hp ⟨rfl, hx⟩
    refine XR_a (op_assign rfl) rfl rfl ?_
    refine XR_nil ?_
    refine X_ret (.cons (.tmp rfl) .nil) ?_
    exact ⟨rfl, hx⟩
  · refine XR_a (op_move rfl) rfl rfl ?_
    refine XR_a (op_lss rfl rfl) rfl rfl ?_
    refine XR_a (op_pick_f rfl rfl) rfl rfl ?_
    refine XR_a (op_move rfl) rfl rfl ?_
    refine XR_if 15 rfl (fun h => ?_) (fun h => ?_)
    · refine XR_no rfl rfl ?_
      refine XR_no rfl rfl ?_
      refine XR_a (op_pick_t rfl rfl) rfl rfl ?_
      refine XR_a (op_move rfl) rfl rfl ?_
      refine XR_no rfl rfl ?_
      refine XR_no rfl rfl ?_
      refine XR_no rfl rfl ?_
      refine XR_no rfl rfl ?_
      refine XR_a (op_pick_t rfl rfl) rfl rfl ?_
      refine XR_nil ?_
      refine X_then rfl ?_
      refine X_seq ?_
      refine X_reg ?_
      refine XR_wa (opl_call (lives03 _) rfl (by kernel_rfl)) rfl rfl rfl ?_
      rintro _ hp ⟨rfl, hx⟩
      refine XR_a (op_assign rfl) rfl rfl ?_
      refine XR_nil ?_
      refine X_ret (.cons (.tmp rfl) .nil) ?_
      exact ⟨rfl, hx⟩
    · refine XR_a (op_move rfl) rfl rfl ?_
      refine XR_a (op_gtr rfl rfl) rfl rfl ?_
      refine XR_a (op_pick_f rfl rfl) rfl rfl ?_
      refine XR_a (op_move rfl) rfl rfl ?_
      refine XR_if 19 rfl (fun h => ?_) (fun h => ?_)
      · refine XR_no rfl rfl ?_
        refine XR_no rfl rfl ?_
        refine XR_no rfl rfl ?_
        refine XR_no rfl rfl ?_
        refine XR_a (op_pick_t rfl rfl) rfl rfl ?_
        refine XR_nil ?_
        refine X_then rfl ?_
        refine X_seq ?_
        refine X_reg ?_
        refine XR_wa (opl_call (lives03 _) rfl (by kernel_rfl)) rfl rfl rfl ?_
        rintro _ hp ⟨rfl, hx⟩
        refine XR_a (op_assign rfl) rfl rfl ?_
        refine XR_nil ?_
        refine X_ret (.cons (.tmp rfl) .nil) ?_
        exact ⟨rfl, hx⟩
      · refine XR_a (op_move rfl) rfl rfl ?_
        refine XR_a (op_move rfl) rfl rfl ?_
        refine XR_a (op_subI rfl rfl (by simp only [inK]; omega)) rfl rfl ?_
        refine XR_a (op_gtr rfl rfl) rfl rfl ?_
        refine XR_a (op_pick_f rfl rfl) rfl rfl ?_
        refine XR_nil ?_
        refine X_if rfl (fun h => ?_) (fun h => ?_)
        · refine X_seq ?_
          refine X_reg ?_
          refine XR_wa (opl_call (lives03 _) rfl (by kernel_rfl)) rfl rfl rfl ?_
          rintro _ hp ⟨rfl, hx⟩
          refine XR_a (op_assign rfl) rfl rfl ?_
          refine XR_nil ?_
          refine X_ret (.cons (.tmp rfl) .nil) ?_
          exact ⟨rfl, hx⟩
        · refine X_skip ?_
          refine X_seq ?_
          refine X_reg ?_
          obtain ⟨a, rfl⟩ : ∃ x : Nat, a = x := ⟨a.toNat, by omega⟩
          obtain ⟨b, rfl⟩ : ∃ x : Nat, b = x := ⟨b.toNat, by omega⟩
          refine XR_wa (opl_new rfl) rfl rfl rfl ?_
          rintro _ hp ⟨pv, rfl, hnew⟩
          replace st := (st.new hnew).wr0
          refine XR_wa (opl_new rfl) rfl rfl rfl ?_
          rintro _ hp ⟨pw, rfl, hnew⟩
          replace st := ((st.new hnew).wr0).perm (List.Perm.swap _ _ _)
          refine XR_nil ?_
          refine X_seq ?_
          refine X_reg ?_
          refine XR_a (op_move rfl) rfl rfl ?_
          refine XR_a (op_move rfl) rfl rfl ?_
          refine XR_a (op_move rfl) rfl rfl ?_
          first | refine XR_a (op_addN rfl rfl (by simp only [inK]; omega)) rfl rfl ?_ | refine XR_a (op_addI rfl rfl (by simp only [inK]; omega)) rfl rfl ?_ | refine XR_a (op_add rfl rfl) rfl rfl ?_
          refine XR_wa (opl_call (put_spec (n := n) st.here hn (by simp)) rfl (by kernel_rfl)) rfl rfl rfl ?_
          rintro _ hp ⟨rfl, st2⟩
          replace st := (st.trans st2).perm (List.Perm.swap _ _ _)
          refine XR_nil ?_
          refine X_seq ?_
          refine X_reg ?_
          refine XR_a (op_move rfl) rfl rfl ?_
          refine XR_a (op_move rfl) rfl rfl ?_
          refine XR_wa (opl_call (put_spec (n := n) st.here hn (by simp)) rfl (by kernel_rfl)) rfl rfl rfl ?_
          rintro _ hp ⟨rfl, st2⟩
          replace st := st.trans st2
          refine XR_nil ?_
          refine X_seq ?_
          refine X_seq ?_
          refine X_reg ?_
          refine XR_a (op_move rfl) rfl rfl ?_
          refine XR_a (op_lss rfl rfl) rfl rfl ?_
          refine XR_nil ?_
          refine X_if rfl (fun h => ?_) (fun h => ?_)
          · refine X_reg ?_
            refine XR_a (op_move rfl) rfl rfl ?_
            refine XR_a (op_move rfl) rfl rfl ?_
            first | refine XR_a (op_convI rfl rfl (by simp only [inK]; omega)) rfl rfl ?_ | refine XR_a (op_convU rfl rfl rfl) rfl rfl ?_ | refine XR_a (op_conv rfl rfl) rfl rfl ?_
            first | refine XR_a (op_shrC _ rfl rfl (by simp only [IntKind.bits]; omega)) rfl rfl ?_ | refine XR_a (op_shrA _ rfl rfl (by simp only [IntKind.bits]; omega)) rfl rfl ?_ | refine XR_a (op_shrN _ rfl rfl (by simp only [IntKind.bits]; omega)) rfl rfl ?_ | refine XR_a (op_shr rfl rfl (by omega)) rfl rfl ?_
            refine XR_a (op_move rfl) rfl rfl ?_
            refine XR_wa (opl_call (put_spec (n := n / 2 ^ a) st.here (Nat.lt_of_le_of_lt (Nat.div_le_self _ _) hn) (by have := wd_le 32 a; simp [bitsN_length]; omega)) rfl (by kernel_rfl)) rfl rfl rfl ?_
            rintro _ hp ⟨rfl, st2⟩
            replace st := st.trans st2
            refine XR_nil ?_
            refine X_seq ?_
            have e : ∃ bs, bs = bitsN (a + b) n ∧ St h0.size h0 hp [wrR pw bs, wrR pv bs] := by
              refine ⟨_, rfl, ?_⟩
              have e1 : wd 32 ((a + b : Nat) : Int) = a + b := by unfold wd; omega
              have e2 : wd 32 (a : Int) = a := by unfold wd; omega
              have e3 : wd 32 (b : Int) = b := by unfold wd; omega
              simp only [e1, e2, e3, List.nil_append] at st
              first
                | (rw [← bitsN_add] at st; exact st)
                | (have hb : b = 0 := by omega
                   subst hb; exact st)
            clear st
            obtain ⟨bs, hbs, st⟩ := e
            have hl : bs.length = a + b := by rw [hbs, bitsN_length]
            refine X_draw_in (butAt [(0, .grow), (2, .grow), (6, .grow), (13, .grow)]) [0, 1, 2, 3, 4, 5, 7, 8, 9, 6, 10, 11, 12, 13, 14, 15] (by kernel_rfl) (by kernel_rfl) rfl ?_
            refine XR_ga (opl_call (wbytes_spec (st.perm (List.Perm.swap _ _ _)).here (by omega)) rfl (by kernel_rfl)) rfl rfl rfl (fun _ _ h => h.low) ?_
            rintro v hp st3
            obtain ⟨A3, n3, c3, rfl, hlen3, _, _, hrd3⟩ := st3.row 0 rfl
            replace st := st.ext st3.low
            refine XR_a (op_str hrd3 rfl (by simpa using hlen3) rfl rfl rfl) rfl rfl ?_
            refine XR_ga (opl_call (wbytes_spec st.here (by omega)) rfl (by kernel_rfl)) rfl rfl rfl (fun _ _ h => h.low) ?_
            rintro v hp st3
            obtain ⟨A3, n3, c3, rfl, hlen3, _, _, hrd3⟩ := st3.row 0 rfl
            replace st := st.ext st3.low
            refine XR_a (op_str hrd3 rfl (by simpa using hlen3) rfl rfl rfl) rfl rfl ?_
            refine XR_a (op_eqlS rfl rfl) rfl rfl ?_
            refine XR_a (op_move rfl) rfl rfl ?_
            refine XR_if 47 rfl (fun h => ?_) (fun h => ?_)
            · refine XR_a (op_move rfl) rfl rfl ?_
              refine XR_a (op_move rfl) rfl rfl ?_
              first | refine XR_a (op_addN rfl rfl (by simp only [inK]; omega)) rfl rfl ?_ | refine XR_a (op_addI rfl rfl (by simp only [inK]; omega)) rfl rfl ?_ | refine XR_a (op_add rfl rfl) rfl rfl ?_
              refine XR_ga (opl_call (wlen_spec (st.perm (List.Perm.swap _ _ _)).here (by omega)) rfl (by kernel_rfl)) rfl rfl rfl (fun _ _ h => h.2 ▸ Low.refl _ _) ?_
              rintro _ _ ⟨rfl, rfl⟩
              rw [hl]
              refine XR_a (op_eql rfl rfl) rfl rfl ?_
              refine XR_a (op_pick_t rfl rfl) rfl rfl ?_
              refine XR_a (op_move rfl) rfl rfl ?_
              refine XR_if 54 rfl (fun h => ?_) (fun h => ?_)
              · refine XR_ga (opl_call (lives03 _) rfl (by kernel_rfl)) rfl rfl rfl (fun _ _ h => h.2) ?_
                rintro _ hp ⟨rfl, hx⟩
                refine XR_a (op_pick_t rfl rfl) rfl rfl ?_
                refine XR_a (op_assign rfl) rfl rfl ?_
                refine XR_nil ?_
                refine X_ret (.cons (.tmp rfl) .nil) ?_
                exact ⟨rfl, st.low.trans (hx.mono st.low.size)⟩
              · exact absurd rfl h
            · exact absurd rfl h
          · refine X_skip ?_
            refine X_seq ?_
            have e : ∃ bs, bs = bitsN (a + b) n ∧ St h0.size h0 hp [wrR pw bs, wrR pv bs] := by
              refine ⟨_, rfl, ?_⟩
              have e1 : wd 32 ((a + b : Nat) : Int) = a + b := by unfold wd; omega
              have e2 : wd 32 (a : Int) = a := by unfold wd; omega
              have e3 : wd 32 (b : Int) = b := by unfold wd; omega
              simp only [e1, e2, e3, List.nil_append] at st
              first
                | (rw [← bitsN_add] at st; exact st)
                | (have hb : b = 0 := by omega
                   subst hb; exact st)
            clear st
            obtain ⟨bs, hbs, st⟩ := e
            have hl : bs.length = a + b := by rw [hbs, bitsN_length]
            refine X_draw_in (butAt [(0, .grow), (2, .grow), (6, .grow), (13, .grow)]) [0, 1, 2, 3, 4, 5, 7, 8, 9, 6, 10, 11, 12, 13, 14, 15] (by kernel_rfl) (by kernel_rfl) rfl ?_
            refine XR_ga (opl_call (wbytes_spec (st.perm (List.Perm.swap _ _ _)).here (by omega)) rfl (by kernel_rfl)) rfl rfl rfl (fun _ _ h => h.low) ?_
            rintro v hp st3
            obtain ⟨A3, n3, c3, rfl, hlen3, _, _, hrd3⟩ := st3.row 0 rfl
            replace st := st.ext st3.low
            refine XR_a (op_str hrd3 rfl (by simpa using hlen3) rfl rfl rfl) rfl rfl ?_
            refine XR_ga (opl_call (wbytes_spec st.here (by omega)) rfl (by kernel_rfl)) rfl rfl rfl (fun _ _ h => h.low) ?_
            rintro v hp st3
            obtain ⟨A3, n3, c3, rfl, hlen3, _, _, hrd3⟩ := st3.row 0 rfl
            replace st := st.ext st3.low
            refine XR_a (op_str hrd3 rfl (by simpa using hlen3) rfl rfl rfl) rfl rfl ?_
            refine XR_a (op_eqlS rfl rfl) rfl rfl ?_
            refine XR_a (op_move rfl) rfl rfl ?_
            refine XR_if 47 rfl (fun h => ?_) (fun h => ?_)
            · refine XR_a (op_move rfl) rfl rfl ?_
              refine XR_a (op_move rfl) rfl rfl ?_
              first | refine XR_a (op_addN rfl rfl (by simp only [inK]; omega)) rfl rfl ?_ | refine XR_a (op_addI rfl rfl (by simp only [inK]; omega)) rfl rfl ?_ | refine XR_a (op_add rfl rfl) rfl rfl ?_
              refine XR_ga (opl_call (wlen_spec (st.perm (List.Perm.swap _ _ _)).here (by omega)) rfl (by kernel_rfl)) rfl rfl rfl (fun _ _ h => h.2 ▸ Low.refl _ _) ?_
              rintro _ _ ⟨rfl, rfl⟩
              rw [hl]
              refine XR_a (op_eql rfl rfl) rfl rfl ?_
              refine XR_a (op_pick_t rfl rfl) rfl rfl ?_
              refine XR_a (op_move rfl) rfl rfl ?_
              refine XR_if 54 rfl (fun h => ?_) (fun h => ?_)
              · refine XR_ga (opl_call (lives03 _) rfl (by kernel_rfl)) rfl rfl rfl (fun _ _ h => h.2) ?_
                rintro _ hp ⟨rfl, hx⟩
                refine XR_a (op_pick_t rfl rfl) rfl rfl ?_
                refine XR_a (op_assign rfl) rfl rfl ?_
                refine XR_nil ?_
                refine X_ret (.cons (.tmp rfl) .nil) ?_
                exact ⟨rfl, st.low.trans (hx.mono st.low.size)⟩
              · exact absurd rfl h
            · exact absurd rfl h
end Go.Bn
