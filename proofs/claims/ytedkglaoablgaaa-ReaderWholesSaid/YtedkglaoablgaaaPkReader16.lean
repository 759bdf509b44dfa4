/- Packed texts of a claim: what its theorem uses, joined. -/
import Derived.Test.YtedkglaoablgaaaPkReader15
section
set_option linter.unusedVariables false
set_option linter.unusedSimpArgs false
set_option maxHeartbeats 4000000
set_option maxRecDepth 20000
namespace Go.Bn
open Go Proofs
theorem giv_ex {mt size : Int} {l : List UInt8} (h : newE mt l size = 0) : ∃ gB gE, Giv (mvOf mt l size) (atOf mt l) [] gB gE := by
  unfold newE at h
  unfold mvOf atOf
  split at h
  · cases h
  · split at h
    · cases h
    · by_cases h0 : mt = 0
      · rw [if_pos h0, if_pos (.inl h0)]
        exact Giv.all (mvA_ok l) _ _ _ (Nat.le_refl _) rfl
      · by_cases h2 : mt = 2
        · rw [if_neg h0, if_pos h2, if_pos (.inr h2)]
          exact Giv.all (mvS_ok (l := l) (size := size.toNat)) _ _ _ (Nat.le_refl _) ⟨Nat.zero_le _, Nat.zero_le _⟩
        · rw [if_neg (by omega)] at h
          obtain ⟨oka, okb, na, nb⟩ := codesT_ok h
          rw [if_neg h0, if_neg h2, if_neg (by omega)]
          exact Giv.all (mvP_ok oka okb) _ _ _ (Nat.le_refl _) ⟨codesT_le h, Nat.zero_le _⟩
theorem gives_ref2 {B m c : Nat} {mt size : Int} {A : Option Addr} {l : List UInt8} {F : List Res} {hb h0 : Heap} (st0 : St B h0 h0 F) (hlb : Low B hb h0) (hrB : ∀ h', Low B hb h' → Rd h' A (l.map byteV)) (hl : l.length = m) (hm : m ≤ 131072) (hmc : m ≤ c) :
    Ret Try.prog 13 [.int .i64 mt, .slice A m c, .int .i64 size] h0 fun v h' => ∃ w gE gB, v = .agg (gC (newE mt l size) w gE).toArray ∧ Value.one w = true ∧ (newE mt l size = 0 → Giv (mvOf mt l size) (atOf mt l) [] gB gE) ∧ (newE mt l size ≠ 0 → gB = []) ∧ St B h0 h' (gRes B hb w gB :: F) := by
  refine (gives_ref st0 hlb hrB hl hm hmc).mono ?_
  rintro v h' ⟨w, gE, rfl, ho, hb, hg⟩
  by_cases h : newE mt l size = 0
  · obtain ⟨gB, g, st⟩ := hg h
    exact ⟨w, gE, gB, rfl, ho, fun _ => g, fun h9 => absurd h h9, st⟩
  · obtain ⟨rfl, st⟩ := hb h
    exact ⟨_, gE, [], rfl, ho, fun h9 => absurd h9 h, fun _ => rfl, st.gArg rfl (Nat.le_refl _) (fun _ _ => .inl rfl)⟩
@[reducible] def payC (mt size : Int) (A : Option Addr) (m c : Nat) : List Value := [.int .i64 mt, .slice A m c, .int .i64 size]
theorem lives36 (h0 : Heap) : Ret Try.prog 12 [] h0 fun v h' => v = .bool true ∧ Ext h0 h' := by
  have hN : newE 0 [97, 98, 99] 3 = 0 := by unfold newE; rw [if_neg (by omega), if_neg (by simp), if_pos (by omega)]
  have hG : Giv (mvOf 0 [97, 98, 99] 3) (atOf 0 [97, 98, 99]) [] [97, 98, 99] 0 := by unfold mvOf; rw [if_pos rfl]; exact Giv.over (mv := mvA [97, 98, 99]) rfl
  have k1 : nextK [97, 98, 99] 0 2 = 2 := by decide
  have k2 : nextK [97, 98, 99] 2 2 = 1 := by decide
  have k3 : nextK [97, 98, 99] 3 2 = 0 := by decide
  have e1 : nextE [97, 98, 99] 0 0 2 = 0 := by decide
  have e2 : nextE [97, 98, 99] 0 2 2 = 0 := by decide
  have e3 : nextE [97, 98, 99] 0 3 2 = 0 := by decide
  refine ret_of_X Try.func12 rfl rfl fun w0 hw0 => ?_
  simp only [argE, Nat.zero_add, Nat.reduceAdd]
  have st := St.start h0
  refine X_seq ?_
  refine X_reg ?_
  refine XR_a (op_assign rfl) rfl rfl ?_
  refine XR_nil ?_
  refine X_seq ?_
  refine X_reg ?_
  refine XR_wa (opl_lits [.int .u8 97, .int .u8 98, .int .u8 99] rfl rfl rfl rfl (by kernel_rfl) rfl) rfl rfl rfl ?_
  rintro v2 hp hnew
  replace st := st.new hnew
  obtain ⟨gA, nA, cA, rfl, hlA, _⟩ := st.row0 0 rfl (by simp)
  have hlA : nA = 3 := by simpa using hlA.symm
  subst hlA
  refine XR_wa (opl_bytesLit st 0 rfl rfl rfl) rfl rfl rfl ?_
  rintro _ hp ⟨rfl, st⟩
  have hx0 := st.low
  obtain ⟨_, _, _, he, _, hcA, _, hrdA⟩ := st.row 0 rfl
  cases he
  have hrdA : Rd hp (some ⟨gA, 0, none⟩) (([97, 98, 99] : List UInt8).map byteV) := hrdA
  refine XR_wa (opl_call (rdnew_spec (l := [97, 98, 99]) (m := 3) (St.start hp) (fun h' hh => hrdA.ext hh) rfl (by omega) hcA) rfl (by kernel_rfl)) rfl rfl rfl ?_
  rintro _ hp1 ⟨w, rfl, hbad, hgood⟩
  obtain ⟨pr, S, rfl, hSb, hst⟩ := hgood hN
  have st := hst _ _ hG
  rw [hN]
  clear hbad hgood hst
  refine XR_a (op_move rfl) rfl rfl ?_
  refine XR_a (op_extract rfl rfl) rfl rfl ?_
  refine XR_a (op_extract rfl rfl) rfl rfl ?_
  refine XR_a (op_assign rfl) rfl rfl ?_
  refine XR_a (op_assign rfl) rfl rfl ?_
  refine XR_nil ?_
  refine X_seq ?_
  refine X_seq ?_
  refine X_reg ?_
  refine XR_a (op_move rfl) rfl rfl ?_
  refine XR_a (op_neq rfl rfl) rfl rfl ?_
  refine XR_as (.bool false) (congrArg Value.bool (decide_eq_false (by simp))) ?_
  refine XR_a (op_move rfl) rfl rfl ?_
  refine XR_a (op_move rfl) rfl rfl ?_
  refine XR_a (op_ptr_nil rfl rfl rfl) rfl rfl ?_
  refine XR_a (op_pick_f rfl rfl) rfl rfl ?_
  refine XR_nil ?_
  refine X_else rfl ?_
  refine X_skip ?_
  refine X_seq ?_
  refine X_reg ?_
  refine XR_a (op_move rfl) rfl rfl ?_
  refine XR_wa (opl_call (rnext_spec st.here (by rw [hSb]; exact st.low) (n := 2) (by simp only [inK]; omega)) rfl (by kernel_rfl)) rfl rfl rfl ?_
  rintro _ hp2 ⟨w1, rfl, st2⟩
  rw [k1, e1] at *
  replace st := (st.trans st2).perm (List.Perm.swap _ _ _)
  clear st2
  refine XR_a (op_move rfl) rfl rfl ?_
  refine XR_a (op_extract rfl rfl) rfl rfl ?_
  refine XR_a (op_extract rfl rfl) rfl rfl ?_
  refine XR_a (op_assign rfl) rfl rfl ?_
  refine XR_a (op_assign rfl) rfl rfl ?_
  refine XR_nil ?_
  refine X_seq ?_
  refine X_reg ?_
  refine XR_a (op_move rfl) rfl rfl ?_
  refine XR_wa (opl_call (rnext_spec st.here (by rw [hSb]; exact st.low) (n := 2) (by simp only [inK]; omega)) rfl (by kernel_rfl)) rfl rfl rfl ?_
  rintro _ hp3 ⟨w2, rfl, st2⟩
  rw [Nat.zero_add, k2, e2] at *
  replace st := (st.trans st2).perm (List.Perm.swap _ _ _)
  clear st2
  refine XR_a (op_move rfl) rfl rfl ?_
  refine XR_a (op_extract rfl rfl) rfl rfl ?_
  refine XR_a (op_extract rfl rfl) rfl rfl ?_
  refine XR_a (op_assign rfl) rfl rfl ?_
  refine XR_a (op_assign rfl) rfl rfl ?_
  refine XR_nil ?_
  refine X_seq ?_
  refine X_reg ?_
  refine XR_a (op_move rfl) rfl rfl ?_
  refine XR_wa (opl_call (rnext_spec st.here (by rw [hSb]; exact st.low) (n := 2) (by simp only [inK]; omega)) rfl (by kernel_rfl)) rfl rfl rfl ?_
  rintro _ hp4 ⟨w3, rfl, st2⟩
  rw [k3, e3] at *
  replace st := (st.trans st2).perm (List.Perm.swap _ _ _)
  clear st2
  obtain ⟨A3, n3, c3, rfl, hl3, _⟩ := st.row 1 rfl
  obtain ⟨A2, n2, c2, rfl, hl2, _⟩ := st.row 2 rfl
  obtain ⟨A1, n1, c1, rfl, hl1, _⟩ := st.row 3 rfl
  have hl1 : n1 = 2 := by simpa using hl1.symm
  have hl2 : n2 = 1 := by simpa using hl2.symm
  have hl3 : n3 = 0 := by simpa using hl3.symm
  subst hl1 hl2 hl3
  refine XR_a (op_move rfl) rfl rfl ?_
  refine XR_a (op_extract rfl rfl) rfl rfl ?_
  refine XR_a (op_extract rfl rfl) rfl rfl ?_
  refine XR_a (op_assign rfl) rfl rfl ?_
  refine XR_a (op_assign rfl) rfl rfl ?_
  refine XR_nil ?_
  refine X_seq ?_
  refine X_reg ?_
  refine XR_a (op_move rfl) rfl rfl ?_
  refine XR_a (op_str (l := [97, 98]) (st.rdS 3 rfl).2 rfl rfl rfl rfl rfl) rfl rfl ?_
  refine XR_a (op_eqlS rfl rfl) rfl rfl ?_
  refine XR_as (.bool true) rfl ?_
  refine XR_a (op_move rfl) rfl rfl ?_
  refine XR_a (op_move rfl) rfl rfl ?_
  refine XR_a (op_str (l := [99]) (st.rdS 2 rfl).2 rfl rfl rfl rfl rfl) rfl rfl ?_
  refine XR_a (op_eqlS rfl rfl) rfl rfl ?_
  refine XR_as (.bool true) rfl ?_
  refine XR_a (op_pick_t rfl rfl) rfl rfl ?_
  refine XR_a (op_move rfl) rfl rfl ?_
  refine XR_a (op_move rfl) rfl rfl ?_
  refine XR_a (op_len rfl rfl rfl) rfl rfl ?_
  refine XR_a (op_eql rfl rfl) rfl rfl ?_
  refine XR_as (.bool true) (congrArg Value.bool (decide_eq_true (by simp))) ?_
  refine XR_a (op_pick_t rfl rfl) rfl rfl ?_
  refine XR_a (op_move rfl) rfl rfl ?_
  refine XR_a (op_move rfl) rfl rfl ?_
  refine XR_a (op_eql rfl rfl) rfl rfl ?_
  refine XR_as (.bool true) (congrArg Value.bool (decide_eq_true (by simp))) ?_
  refine XR_a (op_pick_t rfl rfl) rfl rfl ?_
  refine XR_a (op_move rfl) rfl rfl ?_
  refine XR_a (op_move rfl) rfl rfl ?_
  refine XR_a (op_eql rfl rfl) rfl rfl ?_
  refine XR_as (.bool true) (congrArg Value.bool (decide_eq_true (by simp))) ?_
  refine XR_a (op_pick_t rfl rfl) rfl rfl ?_
  refine XR_a (op_move rfl) rfl rfl ?_
  refine XR_a (op_move rfl) rfl rfl ?_
  refine XR_a (op_eql rfl rfl) rfl rfl ?_
  refine XR_as (.bool true) (congrArg Value.bool (decide_eq_true (by simp))) ?_
  refine XR_a (op_pick_t rfl rfl) rfl rfl ?_
  refine XR_a (op_move rfl) rfl rfl ?_
  refine XR_a (op_move rfl) rfl rfl ?_
  refine XR_wa (opl_call (rdone_spec st.here (by rw [hSb]; exact st.low)) rfl (by kernel_rfl)) rfl rfl rfl ?_
  rintro _ hp5 ⟨rfl, st2⟩
  replace st := st.trans st2
  refine XR_a (op_pick_t rfl rfl) rfl rfl ?_
  refine XR_a (op_assign rfl) rfl rfl ?_
  refine XR_nil ?_
  refine X_ret (.cons (.tmp rfl) .nil) ?_
  exact ⟨rfl, Ext.trans hx0 st.low⟩
theorem great36 (mt size : Int) (A : Option Addr) (m c : Nat) (h0 : Heap) : Ret Try.prog 11 [.agg (payC mt size A m c).toArray] h0 fun v h' => v = .bool (decide (1500 < m)) ∧ Ext h0 h' := by
  refine ret_of_X Try.func11 rfl rfl fun w0 hw0 => ?_
  simp only [argE, Nat.zero_add, Nat.reduceAdd]
  have st := St.start h0
  refine X_seq ?_
  refine X_reg ?_
  refine XR_wa (opl_bx (cs := payC mt size A m c) rfl rfl) rfl rfl rfl ?_
  rintro _ hp ⟨p, rfl, hnew⟩
  replace st := st.new hnew
  refine XR_a (op_assign rfl) rfl rfl ?_
  refine XR_nil ?_
  refine X_seq ?_
  refine X_reg ?_
  first | refine XR_a (op_field0 rfl rfl) rfl rfl ?_ | refine XR_a (op_fieldn rfl rfl) rfl rfl ?_
  refine XR_a (op_ld (st.cell 0 (i := 1) rfl rfl) rfl rfl rfl) rfl rfl ?_
  refine XR_a (op_len rfl rfl rfl) rfl rfl ?_
  refine XR_a (op_gtr rfl rfl) rfl rfl ?_
  refine XR_a (op_assign rfl) rfl rfl ?_
  refine XR_nil ?_
  refine X_ret (.cons (.tmp rfl) .nil) ?_
  exact ⟨congrArg Value.bool (decide_eq_decide.2 ⟨fun hh => by omega, fun hh => by omega⟩), st.low⟩
def wholeG (N : Nat) (gB : List UInt8) (gE : Nat) (step : Int) : List UInt8 × Nat := if step < 1 then ([], 1) else if N ≠ 0 then ([], N) else if gE ≠ 0 then ([], gE) else (gB, 0)
theorem rwhole_spec {B m c : Nat} {mt size step : Int} {A : Option Addr} {l gB : List UInt8} {gE : Nat} {F : List Res} {h0 : Heap} (st0 : St B h0 h0 F) (hrB : ∀ h', Low B h0 h' → Rd h' A (l.map byteV)) (hl : l.length = m) (hm : m ≤ 1073741824) (hmc : m ≤ c) (hstep : inK .i64 step)
    (hG : newE mt l size = 0 → Giv (mvOf mt l size) (atOf mt l) [] gB gE) :
    Ret Try.prog 20 [.int .i64 mt, .slice A m c, .int .i64 size, .int .i64 step] h0 fun v h' => ∃ w, v = retVal [w, nV (wholeG (newE mt l size) gB gE step).2] ∧ St B h0 h' (row 5 1 w ((wholeG (newE mt l size) gB gE step).1.map byteV) :: F) := by
  obtain ⟨W, hW⟩ : ∃ W, wholeG (newE mt l size) gB gE step = W := ⟨_, rfl⟩
  rw [hW]
  unfold wholeG at hW
  refine ret_of_X Try.func20 rfl rfl fun w0 hw0 => ?_
  simp only [argE, Nat.zero_add, Nat.reduceAdd]
  have st := st0
  refine X_seq ?_
  refine X_reg ?_
  refine XR_a (op_assign rfl) rfl rfl ?_
  refine XR_a (op_assign rfl) rfl rfl ?_
  refine XR_nil ?_
  refine X_seq ?_
  refine X_seq ?_
  refine X_reg ?_
  refine XR_a (op_move rfl) rfl rfl ?_
  refine XR_a (op_lss rfl rfl) rfl rfl ?_
  refine XR_nil ?_
  refine X_if rfl (fun h => ?_) (fun h => ?_)
  · refine X_seq ?_
    refine X_reg ?_
    refine XR_a (op_assign rfl) rfl rfl ?_
    refine XR_a (op_assign rfl) rfl rfl ?_
    refine XR_nil ?_
    refine X_ret (.cons (.tmp rfl) (.cons (.tmp rfl) .nil)) ?_
    rw [if_pos (by omega)] at hW
    subst hW
    exact ⟨_, rfl, st.nilrow 5 1⟩
  · refine X_skip ?_
    refine X_seq ?_
    refine X_reg ?_
    refine XR_a (op_move rfl) rfl rfl ?_
    refine XR_a (op_move rfl) rfl rfl ?_
    refine XR_a (op_move rfl) rfl rfl ?_
    refine XR_wa (opl_call (rdnew_spec st hrB hl hm hmc) rfl (by kernel_rfl)) rfl rfl rfl ?_
    rintro _ hp1 ⟨w, rfl, hbad, hgood⟩
    rw [if_neg (by omega)] at hW
    refine XR_a (op_move rfl) rfl rfl ?_
    refine XR_a (op_extract rfl rfl) rfl rfl ?_
    refine XR_a (op_extract rfl rfl) rfl rfl ?_
    refine XR_a (op_assign rfl) rfl rfl ?_
    refine XR_a (op_assign rfl) rfl rfl ?_
    refine XR_nil ?_
    refine X_seq ?_
    refine X_seq ?_
    refine X_reg ?_
    refine XR_a (op_move rfl) rfl rfl ?_
    refine XR_a (op_neq rfl rfl) rfl rfl ?_
    refine XR_nil ?_
    refine X_if rfl (fun h => ?_) (fun h => ?_)
    · refine X_seq ?_
      refine X_reg ?_
      refine XR_a (op_move rfl) rfl rfl ?_
      refine XR_a (op_assign rfl) rfl rfl ?_
      refine XR_a (op_assign rfl) rfl rfl ?_
      refine XR_nil ?_
      refine X_ret (.cons (.tmp rfl) (.cons (.tmp rfl) .nil)) ?_
      obtain ⟨rfl, st⟩ := hbad (by omega)
      rw [if_pos (by omega)] at hW
      subst hW
      exact ⟨_, rfl, st.nilrow 5 1⟩
    · refine X_skip ?_
      refine X_seq ?_
      refine X_reg ?_
      refine XR_a (op_assign rfl) rfl rfl ?_
      refine XR_nil ?_
      refine X_block ?_
      rw [if_neg (by omega)] at hW
      obtain ⟨pr, S, rfl, hSb, hst⟩ := hgood (by omega)
      have st := (hst _ _ (hG (by omega))).nilrow 5 1
      clear hbad hgood hst
      refine X_loop (fun s => gB.length - s.1) (fun s => [(3, .int .i64 step), (10, .pointer (some ⟨pr, 0, none⟩)), (12, s.2)])
        (fun (s : Nat × Value) hp => s.1 ≤ gB.length ∧ St B h0 hp (row 5 1 s.2 ((gB.take s.1).map byteV) :: rdrR S pr gB gE s.1 :: F))
        (0, _) (.cons rfl (.cons rfl (.cons rfl (.nil _)))) ⟨Nat.zero_le _, st⟩ ?_
      clear st
      rintro ⟨told, v⟩ hp ⟨ht, st⟩
      simp only at ht st ⊢
      obtain ⟨A9, n9, c9, rfl, hl9, _⟩ := st.row 0 rfl
      have hgl : gB.length ≤ 1048576 := by
        obtain ⟨_, _, _, h3, _⟩ := St.rdr (st.perm (List.Perm.swap _ _ _))
        have := S.hlim
        omega
      replace st := st.perm (List.Perm.swap _ _ _)
      obtain ⟨K, hK⟩ : ∃ K, nextK gB told step = K := ⟨_, rfl⟩
      obtain ⟨X, hX⟩ : ∃ X, nextE gB gE told step = X := ⟨_, rfl⟩
      have hK2 := hK
      have hX2 := hX
      unfold nextK at hK2
      unfold nextE at hX2
      rw [if_neg (by omega)] at hK2 hX2
      refine X_block ?_
      refine X_seq ?_
      refine X_reg ?_
      refine XR_a (op_move rfl) rfl rfl ?_
      refine XR_a (op_move rfl) rfl rfl ?_
      refine XR_wa (opl_call (rnext_spec st.here (by rw [hSb]; exact st.low) hstep) rfl (by kernel_rfl)) rfl rfl rfl ?_
      rintro _ hp2 ⟨w1, rfl, st2⟩
      rw [hK, hX] at *
      replace st := st.trans st2
      clear st2
      obtain ⟨A1, n1, c1, rfl, hl1, _, _, hrd1⟩ := st.row 0 rfl
      rw [List.length_map, List.length_take, List.length_drop, Nat.mul_one] at hl1
      refine XR_a (op_move rfl) rfl rfl ?_
      refine XR_a (op_extract rfl rfl) rfl rfl ?_
      refine XR_a (op_extract rfl rfl) rfl rfl ?_
      refine XR_a (op_assign rfl) rfl rfl ?_
      refine XR_a (op_assign rfl) rfl rfl ?_
      refine XR_nil ?_
      refine X_seq ?_
      refine X_block ?_
      refine X_seq ?_
      refine X_reg ?_
      refine XR_a (op_move rfl) rfl rfl ?_
      refine XR_a (op_neq rfl rfl) rfl rfl ?_
      refine XR_a (op_assign rfl) rfl rfl ?_
      refine XR_nil ?_
      refine X_if rfl (fun h => ?_) (fun h => ?_)
      · refine X_seq ?_
        refine X_reg ?_
        refine XR_a (op_move rfl) rfl rfl ?_
        refine XR_a (op_assign rfl) rfl rfl ?_
        refine XR_a (op_assign rfl) rfl rfl ?_
        refine XR_nil ?_
        refine X_ret (.cons (.tmp rfl) (.cons (.tmp rfl) .nil)) ?_
        have hle : gB.length ≤ told := by
          refine Classical.byContradiction fun hn => ?_
          rw [if_neg hn] at hX2
          omega
        rw [if_pos hle] at hX2
        rw [if_pos (by omega)] at hW
        subst hW hX2
        exact ⟨_, rfl, (St.reF [_, _, _] 3 st [0, 1, 2] (by decide)).tail.tail.tail.nilrow 5 1⟩
      · refine X_seq ?_
        refine X_reg ?_
        refine XR_a (op_move rfl) rfl rfl ?_
        refine XR_a (op_len rfl rfl rfl) rfl rfl ?_
        refine XR_a (op_eql rfl rfl) rfl rfl ?_
        refine XR_a (op_assign rfl) rfl rfl ?_
        refine XR_nil ?_
        refine X_if rfl (fun h => ?_) (fun h => ?_)
        · refine X_seq ?_
          refine X_reg ?_
          refine XR_a (op_move rfl) rfl rfl ?_
          refine XR_a (op_assign rfl) rfl rfl ?_
          refine XR_a (op_assign rfl) rfl rfl ?_
          refine XR_nil ?_
          refine X_ret (.cons (.tmp rfl) (.cons (.tmp rfl) .nil)) ?_
          have hle : gB.length ≤ told := by omega
          rw [if_pos hle] at hX2
          rw [if_neg (by omega)] at hW
          subst hW
          have e : gB.take told = gB := List.take_of_length_le (by omega)
          rw [e] at st
          exact ⟨_, rfl, (St.reF [_, _, _] 3 st [0, 1, 2] (by decide)).tail.tail⟩
        · refine X_skip ?_
          refine X_blk ?_
          refine X_reg ?_
          refine XR_a (op_move rfl) rfl rfl ?_
          refine XR_a (op_move rfl) rfl rfl ?_
          refine XR_wa (opl_append st 2 rfl (hrd1) (by simp; omega) (one_bytes _) (by simp; omega) rfl rfl rfl rfl rfl rfl rfl) rfl rfl rfl fun v hp st => ?_
          simp only [List.set_cons_zero, List.set_cons_succ] at st
          rw [← List.map_append, show gB.take told ++ (gB.drop told).take K = gB.take (told + K) by rw [← List.take_add]] at st
          refine XR_a (op_assign rfl) rfl rfl ?_
          refine XR_nil ?_
          refine X_blk ?_
          exact X_again (told + K, _) (.cons rfl (.cons rfl (.cons rfl (.nil _)))) ⟨by simp only; omega, (St.reF [_, _, _] 3 st [0, 2, 1] (by decide)).tail⟩ (by simp only; omega)
theorem readerWholes_ret {m c : Nat} {mt size step : Int} {A : Option Addr} {l : List UInt8} {h0 : Heap} (hr : Rd h0 A (l.map byteV)) (hl : l.length = m) (hmc : m ≤ c) (hstep : inK .i64 step) :
    Ret Try.prog 5 [.agg (payC mt size A m c).toArray, .int .i64 step] h0 fun v h' => v = .bool true ∧ Ext h0 h' := by
  refine ret_of_X Try.func5 rfl rfl fun w0 hw0 => ?_
  simp only [argE, Nat.zero_add, Nat.reduceAdd]
  have st := St.start h0
  refine X_seq ?_
  refine X_reg ?_
  refine XR_wa (opl_bx (cs := payC mt size A m c) rfl rfl) rfl rfl rfl ?_
  rintro _ hp ⟨p2, rfl, hnew⟩
  replace st := st.new hnew
  refine XR_a (op_assign rfl) rfl rfl ?_
  refine XR_nil ?_
  refine X_seq ?_
  refine X_seq ?_
  refine X_reg ?_
  refine XR_a (op_ldA (vs := payC mt size A m c) (st.cells 0 rfl) rfl rfl rfl rfl) rfl rfl ?_
  refine XR_wa (opl_call (great36 _ _ _ _ _ _) rfl (by kernel_rfl)) rfl rfl rfl ?_
  rintro _ hp ⟨rfl, hx⟩
  replace st := st.ext hx
  refine XR_nil ?_
  refine X_if rfl (fun h => ?_) (fun h => ?_)
  · refine X_seq ?_
    refine X_reg ?_
    refine XR_wa (opl_call (lives36 _) rfl (by kernel_rfl)) rfl rfl rfl ?_
    rintro _ hp ⟨rfl, hx⟩
    refine XR_a (op_assign rfl) rfl rfl ?_
    refine XR_nil ?_
    refine X_ret (.cons (.tmp rfl) .nil) ?_
    exact ⟨rfl, Ext.trans st.low hx⟩
  · refine X_skip ?_
    refine X_seq ?_
    refine X_reg ?_
    first | refine XR_a (op_field0 rfl rfl) rfl rfl ?_ | refine XR_a (op_fieldn rfl rfl) rfl rfl ?_
    refine XR_a (op_ld (st.cell 0 (i := 0) rfl rfl) rfl rfl rfl) rfl rfl ?_
    first | refine XR_a (op_field0 rfl rfl) rfl rfl ?_ | refine XR_a (op_fieldn rfl rfl) rfl rfl ?_
    refine XR_a (op_ld (st.cell 0 (i := 1) rfl rfl) rfl rfl rfl) rfl rfl ?_
    first | refine XR_a (op_field0 rfl rfl) rfl rfl ?_ | refine XR_a (op_fieldn rfl rfl) rfl rfl ?_
    refine XR_a (op_ld (st.cell 0 (i := 2) rfl rfl) rfl rfl rfl) rfl rfl ?_
    refine XR_wa (opl_call (gives_ref2 st.here st.low (fun h' hh => hr.ext hh) hl (by omega) hmc) rfl (by kernel_rfl)) rfl rfl rfl ?_
    rintro _ hp ⟨w, gE, gB, rfl, how, hG, hgn, st2⟩
    replace st := st.trans st2
    clear st2
    refine XR_wa (opl_new rfl) rfl rfl rfl ?_
    rintro _ hp ⟨p5, rfl, hnew⟩
    replace st := st.new hnew
    refine XR_wn (opl_store_whole (us := gC (newE mt l size) w gE) st 0 rfl rfl rfl rfl rfl (gC_one how) rfl) rfl rfl fun _ hp st => ?_
    simp only [List.set_cons_zero, List.set_cons_succ] at st
    refine XR_nil ?_
    refine X_seq ?_
    refine X_reg ?_
    first | refine XR_a (op_field0 rfl rfl) rfl rfl ?_ | refine XR_a (op_fieldn rfl rfl) rfl rfl ?_
    refine XR_a (op_ld (st.cell 2 (i := 0) rfl rfl) rfl rfl rfl) rfl rfl ?_
    first | refine XR_a (op_field0 rfl rfl) rfl rfl ?_ | refine XR_a (op_fieldn rfl rfl) rfl rfl ?_
    refine XR_a (op_ld (st.cell 2 (i := 1) rfl rfl) rfl rfl rfl) rfl rfl ?_
    first | refine XR_a (op_field0 rfl rfl) rfl rfl ?_ | refine XR_a (op_fieldn rfl rfl) rfl rfl ?_
    refine XR_a (op_ld (st.cell 2 (i := 2) rfl rfl) rfl rfl rfl) rfl rfl ?_
    refine XR_a (op_move rfl) rfl rfl ?_
    refine XR_wa (opl_call (rwhole_spec (gB := gB) (gE := gE) st.here (fun h' hh => hr.ext (st.low.trans hh)) hl (by omega) hmc hstep hG) rfl (by kernel_rfl)) rfl rfl rfl ?_
    rintro _ hp2 ⟨w1, rfl, st2⟩
    replace st := st.trans st2
    clear st2
    obtain ⟨A1, n1, c1, rfl, hl1, _, _, hrd1⟩ := st.row 0 rfl
    obtain ⟨N, hN⟩ : ∃ N, newE mt l size = N := ⟨_, rfl⟩
    rw [hN] at st hl1 hrd1 hG hgn ⊢
    obtain ⟨W, hW⟩ : ∃ W, wholeG N gB gE step = W := ⟨_, rfl⟩
    rw [hW] at st hl1 hrd1 ⊢
    unfold wholeG at hW
    rw [List.length_map, Nat.mul_one] at hl1
    refine XR_a (op_move rfl) rfl rfl ?_
    refine XR_a (op_extract rfl rfl) rfl rfl ?_
    refine XR_a (op_extract rfl rfl) rfl rfl ?_
    refine XR_a (op_assign rfl) rfl rfl ?_
    refine XR_a (op_assign rfl) rfl rfl ?_
    refine XR_nil ?_
    refine X_seq ?_
    refine X_reg ?_
    first | refine XR_a (op_field0 rfl rfl) rfl rfl ?_ | refine XR_a (op_fieldn rfl rfl) rfl rfl ?_
    refine XR_a (op_ld (st.cell 1 (i := 0) rfl rfl) rfl rfl rfl) rfl rfl ?_
    refine XR_a (op_assign rfl) rfl rfl ?_
    refine XR_nil ?_
    refine X_seq ?_
    refine X_seq ?_
    refine X_reg ?_
    refine XR_a (op_move rfl) rfl rfl ?_
    refine XR_a (op_eql rfl rfl) rfl rfl ?_
    refine XR_nil ?_
    refine X_if rfl (fun h => ?_) (fun h => ?_)
    · refine X_reg ?_
      first | refine XR_a (op_field0 rfl rfl) rfl rfl ?_ | refine XR_a (op_fieldn rfl rfl) rfl rfl ?_
      refine XR_a (op_ld (st.cell 1 (i := 2) rfl rfl) rfl rfl rfl) rfl rfl ?_
      refine XR_a (op_assign rfl) rfl rfl ?_
      refine XR_nil ?_
      refine X_seq ?_
      refine X_seq ?_
      refine X_reg ?_
      refine XR_a (op_move rfl) rfl rfl ?_
      refine XR_a (op_lss rfl rfl) rfl rfl ?_
      refine XR_nil ?_
      refine X_if rfl (fun h => ?_) (fun h => ?_)
      · refine X_reg ?_
        refine XR_a (op_assign rfl) rfl rfl ?_
        refine XR_nil ?_
        refine X_seq ?_
        refine X_seq ?_
        refine X_reg ?_
        refine XR_a (op_move rfl) rfl rfl ?_
        refine XR_a (op_neq rfl rfl) rfl rfl ?_
        refine XR_nil ?_
        refine X_if rfl (fun h => ?_) (fun h => ?_)
        · rw [if_pos (by omega)] at hW
          subst hW
          refine X_seq ?_
          refine X_reg ?_
          refine XR_a (op_move rfl) rfl rfl ?_
          refine XR_a (op_move rfl) rfl rfl ?_
          refine XR_a (op_eql rfl rfl) rfl rfl ?_
          refine XR_as (.bool true) (congrArg Value.bool (decide_eq_true rfl)) ?_
          refine XR_a (op_move rfl) rfl rfl ?_
          refine XR_a (op_move rfl) rfl rfl ?_
          refine XR_a (op_len rfl rfl rfl) rfl rfl ?_
          refine XR_a (op_eql rfl rfl) rfl rfl ?_
          refine XR_as (.bool true) (congrArg Value.bool (decide_eq_true (by have : n1 = 0 := by rw [← hl1]; rfl
                                                                             omega))) ?_
          refine XR_a (op_pick_t rfl rfl) rfl rfl ?_
          refine XR_a (op_move rfl) rfl rfl ?_
          refine XR_wa (opl_call (lives36 _) rfl (by kernel_rfl)) rfl rfl rfl ?_
          rintro _ hp ⟨rfl, hx⟩
          refine XR_a (op_pick_t rfl rfl) rfl rfl ?_
          refine XR_a (op_assign rfl) rfl rfl ?_
          refine XR_nil ?_
          refine X_ret (.cons (.tmp rfl) .nil) ?_
          exact ⟨rfl, Ext.trans st.low hx⟩
        · exfalso; omega
      · refine X_skip ?_
        refine X_seq ?_
        refine X_seq ?_
        refine X_reg ?_
        refine XR_a (op_move rfl) rfl rfl ?_
        refine XR_a (op_neq rfl rfl) rfl rfl ?_
        refine XR_nil ?_
        refine X_if rfl (fun h => ?_) (fun h => ?_)
        · rw [if_neg (by omega), if_neg (by omega), if_pos (by omega)] at hW
          subst hW
          refine X_seq ?_
          refine X_reg ?_
          refine XR_a (op_move rfl) rfl rfl ?_
          refine XR_a (op_move rfl) rfl rfl ?_
          refine XR_a (op_eql rfl rfl) rfl rfl ?_
          refine XR_as (.bool true) (congrArg Value.bool (decide_eq_true rfl)) ?_
          refine XR_a (op_move rfl) rfl rfl ?_
          refine XR_a (op_move rfl) rfl rfl ?_
          refine XR_a (op_len rfl rfl rfl) rfl rfl ?_
          refine XR_a (op_eql rfl rfl) rfl rfl ?_
          refine XR_as (.bool true) (congrArg Value.bool (decide_eq_true (by have : n1 = 0 := by rw [← hl1]; rfl
                                                                             omega))) ?_
          refine XR_a (op_pick_t rfl rfl) rfl rfl ?_
          refine XR_a (op_move rfl) rfl rfl ?_
          refine XR_wa (opl_call (lives36 _) rfl (by kernel_rfl)) rfl rfl rfl ?_
          rintro _ hp ⟨rfl, hx⟩
          refine XR_a (op_pick_t rfl rfl) rfl rfl ?_
          refine XR_a (op_assign rfl) rfl rfl ?_
          refine XR_nil ?_
          refine X_ret (.cons (.tmp rfl) .nil) ?_
          exact ⟨rfl, Ext.trans st.low hx⟩
        · rw [if_neg (by omega), if_neg (by omega), if_neg (by omega)] at hW
          subst hW
          obtain ⟨Ag, ng, cg, rfl, hgl, hgc, hrg⟩ := st.gRes 2 rfl st.low
          refine X_skip ?_
          refine X_seq ?_
          refine X_reg ?_
          refine XR_a (op_move rfl) rfl rfl ?_
          refine XR_a (op_eql rfl rfl) rfl rfl ?_
          refine XR_as (.bool true) (congrArg Value.bool (decide_eq_true rfl)) ?_
          refine XR_a (op_move rfl) rfl rfl ?_
          refine XR_a (op_move rfl) rfl rfl ?_
          refine XR_a (op_str (l := gB) hrd1 rfl hl1 rfl rfl rfl) rfl rfl ?_
          first | refine XR_a (op_field0 rfl rfl) rfl rfl ?_ | refine XR_a (op_fieldn rfl rfl) rfl rfl ?_
          refine XR_a (op_ld (st.cell 1 (i := 1) rfl rfl) rfl rfl rfl) rfl rfl ?_
          refine XR_a (op_str (l := gB) hrg rfl hgl rfl rfl rfl) rfl rfl ?_
          refine XR_a (op_eqlS rfl rfl) rfl rfl ?_
          refine XR_as (.bool true) (congrArg Value.bool (decide_eq_true rfl)) ?_
          refine XR_a (op_pick_t rfl rfl) rfl rfl ?_
          refine XR_a (op_move rfl) rfl rfl ?_
          refine XR_wa (opl_call (lives36 _) rfl (by kernel_rfl)) rfl rfl rfl ?_
          rintro _ hp ⟨rfl, hx⟩
          refine XR_a (op_pick_t rfl rfl) rfl rfl ?_
          refine XR_a (op_assign rfl) rfl rfl ?_
          refine XR_nil ?_
          refine X_ret (.cons (.tmp rfl) .nil) ?_
          exact ⟨rfl, Ext.trans st.low hx⟩
    · refine X_skip ?_
      refine X_seq ?_
      refine X_seq ?_
      refine X_reg ?_
      refine XR_a (op_move rfl) rfl rfl ?_
      refine XR_a (op_lss rfl rfl) rfl rfl ?_
      refine XR_nil ?_
      refine X_if rfl (fun h => ?_) (fun h => ?_)
      · refine X_reg ?_
        refine XR_a (op_assign rfl) rfl rfl ?_
        refine XR_nil ?_
        refine X_seq ?_
        refine X_seq ?_
        refine X_reg ?_
        refine XR_a (op_move rfl) rfl rfl ?_
        refine XR_a (op_neq rfl rfl) rfl rfl ?_
        refine XR_nil ?_
        refine X_if rfl (fun h => ?_) (fun h => ?_)
        · rw [if_pos (by omega)] at hW
          subst hW
          refine X_seq ?_
          refine X_reg ?_
          refine XR_a (op_move rfl) rfl rfl ?_
          refine XR_a (op_move rfl) rfl rfl ?_
          refine XR_a (op_eql rfl rfl) rfl rfl ?_
          refine XR_as (.bool true) (congrArg Value.bool (decide_eq_true rfl)) ?_
          refine XR_a (op_move rfl) rfl rfl ?_
          refine XR_a (op_move rfl) rfl rfl ?_
          refine XR_a (op_len rfl rfl rfl) rfl rfl ?_
          refine XR_a (op_eql rfl rfl) rfl rfl ?_
          refine XR_as (.bool true) (congrArg Value.bool (decide_eq_true (by have : n1 = 0 := by rw [← hl1]; rfl
                                                                             omega))) ?_
          refine XR_a (op_pick_t rfl rfl) rfl rfl ?_
          refine XR_a (op_move rfl) rfl rfl ?_
          refine XR_wa (opl_call (lives36 _) rfl (by kernel_rfl)) rfl rfl rfl ?_
          rintro _ hp ⟨rfl, hx⟩
          refine XR_a (op_pick_t rfl rfl) rfl rfl ?_
          refine XR_a (op_assign rfl) rfl rfl ?_
          refine XR_nil ?_
          refine X_ret (.cons (.tmp rfl) .nil) ?_
          exact ⟨rfl, Ext.trans st.low hx⟩
        · exfalso; omega
      · refine X_skip ?_
        refine X_seq ?_
        refine X_seq ?_
        refine X_reg ?_
        refine XR_a (op_move rfl) rfl rfl ?_
        refine XR_a (op_neq rfl rfl) rfl rfl ?_
        refine XR_nil ?_
        refine X_if rfl (fun h => ?_) (fun h => ?_)
        · rw [if_neg (by omega), if_pos (by omega)] at hW
          subst hW
          refine X_seq ?_
          refine X_reg ?_
          refine XR_a (op_move rfl) rfl rfl ?_
          refine XR_a (op_move rfl) rfl rfl ?_
          refine XR_a (op_eql rfl rfl) rfl rfl ?_
          refine XR_as (.bool true) (congrArg Value.bool (decide_eq_true rfl)) ?_
          refine XR_a (op_move rfl) rfl rfl ?_
          refine XR_a (op_move rfl) rfl rfl ?_
          refine XR_a (op_len rfl rfl rfl) rfl rfl ?_
          refine XR_a (op_eql rfl rfl) rfl rfl ?_
          refine XR_as (.bool true) (congrArg Value.bool (decide_eq_true (by have : n1 = 0 := by rw [← hl1]; rfl
                                                                             omega))) ?_
          refine XR_a (op_pick_t rfl rfl) rfl rfl ?_
          refine XR_a (op_move rfl) rfl rfl ?_
          refine XR_wa (opl_call (lives36 _) rfl (by kernel_rfl)) rfl rfl rfl ?_
          rintro _ hp ⟨rfl, hx⟩
          refine XR_a (op_pick_t rfl rfl) rfl rfl ?_
          refine XR_a (op_assign rfl) rfl rfl ?_
          refine XR_nil ?_
          refine X_ret (.cons (.tmp rfl) .nil) ?_
          exact ⟨rfl, Ext.trans st.low hx⟩
        · exfalso; omega
end Go.Bn
end

section
namespace Go.Bn
open Go
section
variable {P : Program} {E : Env} {hp : Heap} {cl : Cls} {d : Option Tmp} {ty : TypeId} {pos : String} {af : Array Edge} {g : Option (Nat × Bool)} {x y : Operand} {t t' : TypeId}
def isFuncT (P : Program) (t : TypeId) : Bool := match P.underlying t with
  | some (.func ..) => true
  | _ => false
theorem op_func_eql {f : Fn} {b c : Array Value} (hx : ev E x = some (.func f b c)) (hy : ev E y = some .nilFunc) (ht : isFuncT P t = true) : Op1 cl P ⟨d, .binOp .eql t x y t', ty, pos, af, g⟩ E hp (.bool false) :=
  .of_pure fun n a ho w' => by
    unfold isFuncT at ht
    split at ht
    · rename_i a1 a2 a3 hu
      have he0 : ∀ dd, (Op.equalIn (dd + 1) t (.func f b c) .nilFunc).run P w' = .ok false w' := by
        intro dd
        simp [Op.equalIn, run_underlying hu]
      have hm : Op.maxDepth = 9999 + 1 := rfl
      have he := he0 9999
      rw [← hm] at he
      simp [execOp, ho.eval hx, ho.eval hy, eqGuard, binOp, Op.equal, he]
    · cases ht
theorem opl_callV2 {f : FuncId} {args : Array Operand} {ts : Array TypeId} {vs all : List Value} {caps : Array Value} {Φ : Value → Heap → Prop} (hx : ev E x = some (.func (.func f) #[] caps)) (hargs : evs E args.toList = some vs) (hall : vs ++ caps.toList = all) (h : Ret P f all hp Φ) (hc : callOk P f = true) :
    OpL P ⟨d, .call ⟨.value x, args, ts⟩, ty, pos, af, g⟩ E hp Φ := opl_callV hx (by rw [hall]; exact h) hargs hc
end
end Go.Bn
end

section
set_option linter.unusedVariables false
set_option linter.unusedSimpArgs false
set_option maxHeartbeats 4000000
set_option maxRecDepth 20000
namespace Go.Bn
open Go Proofs
theorem all36_yield {B p5 p10 p13 p15 p16 at_ i n c ng cg gE : Nat} {A Ag : Option Addr} {till : Int} {gB : List UInt8} {F : List Res} {hG h0 : Heap} (st0 : St B h0 h0 (pt p13 3 [nV at_] :: pt p16 4 [.bool true] :: pt p15 3 [nV i] :: pt p10 30 (gC 0 (.slice Ag ng cg) gE) :: gRes B hG (.slice Ag ng cg) gB :: pt p5 3 [.int .i64 till] :: Bn.row 5 1 (.slice A n c) (((gB.drop at_).take (min 100 (gB.length - at_))).map byteV) :: F)) (hlw : Low B hG h0) (hpos : at_ < gB.length) (hgl2 : gB.length ≤ 1048576) (hi : i ≤ at_) :
    Ret Try.prog 19 [.slice A n c, .pointer (some ⟨p10, 0, none⟩), .pointer (some ⟨p13, 0, none⟩), .pointer (some ⟨p16, 0, none⟩), .pointer (some ⟨p15, 0, none⟩), .pointer (some ⟨p5, 0, none⟩)] h0
      fun v h' => v = .bool (decide (((i + 1 : Nat) : Int) ≠ till)) ∧ St B h0 h' (pt p13 3 [nV (at_ + min 100 (gB.length - at_))] :: pt p16 4 [.bool true] :: pt p15 3 [nV (i + 1)] :: pt p10 30 (gC 0 (.slice Ag ng cg) gE) :: gRes B hG (.slice Ag ng cg) gB :: pt p5 3 [.int .i64 till] :: F) := by
  obtain ⟨_, _, _, hee, hgl, hgc, hrg⟩ := st0.gRes 4 rfl hlw
  obtain ⟨rfl, rfl, rfl⟩ := Value.slice.inj hee
  obtain ⟨_, _, _, hee2, hbl, hbc, _, hrb⟩ := st0.row 6 rfl
  obtain ⟨rfl, rfl, rfl⟩ := Value.slice.inj hee2
  obtain ⟨K, hK⟩ : ∃ K, min 100 (gB.length - at_) = K := ⟨_, rfl⟩
  rw [hK] at st0 hrb hbl ⊢
  rw [List.length_map, List.length_take, List.length_drop, Nat.mul_one] at hbl
  refine ret_of_X Try.func19 rfl rfl fun w0 hw0 => ?_
  simp only [argE, Nat.zero_add, Nat.reduceAdd]
  have st := st0
  refine X_seq ?_
  refine X_reg ?_
  refine XR_a (op_assign rfl) rfl rfl ?_
  refine XR_nil ?_
  refine X_seq ?_
  refine X_reg ?_
  first | refine XR_a (op_field0 rfl rfl) rfl rfl ?_ | refine XR_a (op_fieldn rfl rfl) rfl rfl ?_
  refine XR_a (op_ld (st.cell 3 (i := 1) rfl rfl) rfl rfl rfl) rfl rfl ?_
  refine XR_a (op_len rfl rfl rfl) rfl rfl ?_
  refine XR_a (op_ld (st.cell 0 (i := 0) rfl rfl) rfl rfl rfl) rfl rfl ?_
  refine XR_a (op_subI rfl rfl (by simp only [inK]; omega)) rfl rfl ?_
  refine XR_as (nV (gB.length - at_)) (congrArg (Value.int .i64) (by omega)) ?_
  refine XR_a (op_assign rfl) rfl rfl ?_
  refine XR_nil ?_
  refine X_seq ?_
  refine X_seq ?_
  refine X_reg ?_
  refine XR_a (op_move rfl) rfl rfl ?_
  refine XR_a (op_gtr rfl rfl) rfl rfl ?_
  refine XR_nil ?_
  refine X_if rfl (fun h => ?_) (fun h => ?_)
  · obtain rfl : K = 100 := by omega
    refine X_reg ?_
    refine XR_a (op_assign rfl) rfl rfl ?_
    refine XR_nil ?_
    refine X_seq ?_
    refine X_draw byKind (by kernel_rfl) (by kernel_rfl) ?_
    refine XR_a (op_ld (st.cell 1 (i := 0) rfl rfl) rfl rfl rfl) rfl rfl ?_
    refine XR_a (op_move rfl) rfl rfl ?_
    refine XR_a (op_move rfl) rfl rfl ?_
    refine XR_a (op_gtr rfl rfl) rfl rfl ?_
    refine XR_as (.bool true) (congrArg Value.bool (decide_eq_true (by omega))) ?_
    refine XR_a (op_pick_t rfl rfl) rfl rfl ?_
    refine XR_a (op_move rfl) rfl rfl ?_
    refine XR_a (op_move rfl) rfl rfl ?_
    refine XR_a (op_str hrb rfl (by rw [List.length_take, List.length_drop]; exact hbl) rfl rfl rfl) rfl rfl ?_
    first | refine XR_a (op_field0 rfl rfl) rfl rfl ?_ | refine XR_a (op_fieldn rfl rfl) rfl rfl ?_
    refine XR_a (op_ld (st.cell 3 (i := 1) rfl rfl) rfl rfl rfl) rfl rfl ?_
    refine XR_a (op_ld (st.cell 0 (i := 0) rfl rfl) rfl rfl rfl) rfl rfl ?_
    refine XR_a (op_ld (st.cell 0 (i := 0) rfl rfl) rfl rfl rfl) rfl rfl ?_
    refine XR_a (op_move rfl) rfl rfl ?_
    first | refine XR_a (op_addN rfl rfl (by simp only [inK]; omega)) rfl rfl ?_ | refine XR_a (op_addI rfl rfl (by simp only [inK]; omega)) rfl rfl ?_ | refine XR_a (op_add rfl rfl) rfl rfl ?_
    refine XR_a (op_slice (l := at_) (h := at_ + 100) rfl rfl rfl rfl (by omega) (by omega)) rfl rfl ?_
    have hcut := hrg.cut at_ 1 cg 100 (by intro hh; simp; omega)
    rw [Nat.mul_one, ← List.map_drop, ← List.map_take] at hcut
    refine XR_a (op_str hcut rfl (by rw [List.length_take, List.length_drop]; omega) rfl rfl rfl) rfl rfl ?_
    refine XR_a (op_eqlS rfl rfl) rfl rfl ?_
    refine XR_as (.bool true) (congrArg Value.bool (decide_eq_true rfl)) ?_
    refine XR_a (op_pick_t rfl rfl) rfl rfl ?_
    refine XR_wn (opl_store_pt st 1 rfl rfl rfl rfl rfl (rfl)) rfl rfl fun _ hp st => ?_
    simp only [List.set_cons_zero, List.set_cons_succ] at st
    refine XR_nil ?_
    refine X_seq ?_
    refine X_reg ?_
    refine XR_a (op_ld (st.cell 0 (i := 0) rfl rfl) rfl rfl rfl) rfl rfl ?_
    refine XR_a (op_move rfl) rfl rfl ?_
    refine XR_a (op_len rfl rfl rfl) rfl rfl ?_
    refine XR_a (op_addI rfl rfl (by simp only [inK]; omega)) rfl rfl ?_
    refine XR_as (nV (at_ + 100)) (congrArg (Value.int .i64) (by omega)) ?_
    refine XR_wn (opl_store_pt st 0 rfl rfl rfl rfl rfl (rfl)) rfl rfl fun _ hp st => ?_
    simp only [List.set_cons_zero, List.set_cons_succ] at st
    refine XR_nil ?_
    refine X_seq ?_
    refine X_reg ?_
    refine XR_a (op_ld (st.cell 2 (i := 0) rfl rfl) rfl rfl rfl) rfl rfl ?_
    first | refine XR_a (op_addN (n := 1) rfl rfl (by simp only [inK]; omega)) rfl rfl ?_ | refine XR_a (op_addI rfl rfl (by simp only [inK]; omega)) rfl rfl ?_ | refine XR_a (op_add rfl rfl) rfl rfl ?_
    refine XR_wn (opl_store_pt st 2 rfl rfl rfl rfl rfl (rfl)) rfl rfl fun _ hp st => ?_
    simp only [List.set_cons_zero, List.set_cons_succ] at st
    refine XR_nil ?_
    refine X_seq ?_
    refine X_reg ?_
    refine XR_a (op_ld (st.cell 1 (i := 0) rfl rfl) rfl rfl rfl) rfl rfl ?_
    refine XR_a (op_move rfl) rfl rfl ?_
    refine XR_a (op_ld (st.cell 2 (i := 0) rfl rfl) rfl rfl rfl) rfl rfl ?_
    refine XR_a (op_ld (st.cell 5 (i := 0) rfl rfl) rfl rfl rfl) rfl rfl ?_
    refine XR_a (op_neq rfl rfl) rfl rfl ?_
    refine XR_a (op_pick_t rfl rfl) rfl rfl ?_
    refine XR_a (op_assign rfl) rfl rfl ?_
    refine XR_nil ?_
    refine X_ret (.cons (.tmp rfl) .nil) ?_
    exact ⟨rfl, (St.reF [_, _, _, _, _, _, _] 7 st [6, 0, 1, 2, 3, 4, 5] (by decide)).tail⟩
  · obtain rfl : K = gB.length - at_ := by omega
    refine X_skip ?_
    refine X_seq ?_
    refine X_draw byKind (by kernel_rfl) (by kernel_rfl) ?_
    refine XR_a (op_ld (st.cell 1 (i := 0) rfl rfl) rfl rfl rfl) rfl rfl ?_
    refine XR_a (op_move rfl) rfl rfl ?_
    refine XR_a (op_move rfl) rfl rfl ?_
    refine XR_a (op_gtr rfl rfl) rfl rfl ?_
    refine XR_as (.bool true) (congrArg Value.bool (decide_eq_true (by omega))) ?_
    refine XR_a (op_pick_t rfl rfl) rfl rfl ?_
    refine XR_a (op_move rfl) rfl rfl ?_
    refine XR_a (op_move rfl) rfl rfl ?_
    refine XR_a (op_str hrb rfl (by rw [List.length_take, List.length_drop]; exact hbl) rfl rfl rfl) rfl rfl ?_
    first | refine XR_a (op_field0 rfl rfl) rfl rfl ?_ | refine XR_a (op_fieldn rfl rfl) rfl rfl ?_
    refine XR_a (op_ld (st.cell 3 (i := 1) rfl rfl) rfl rfl rfl) rfl rfl ?_
    refine XR_a (op_ld (st.cell 0 (i := 0) rfl rfl) rfl rfl rfl) rfl rfl ?_
    refine XR_a (op_ld (st.cell 0 (i := 0) rfl rfl) rfl rfl rfl) rfl rfl ?_
    refine XR_a (op_move rfl) rfl rfl ?_
    first | refine XR_a (op_addN rfl rfl (by simp only [inK]; omega)) rfl rfl ?_ | refine XR_a (op_addI rfl rfl (by simp only [inK]; omega)) rfl rfl ?_ | refine XR_a (op_add rfl rfl) rfl rfl ?_
    refine XR_a (op_slice (l := at_) (h := at_ + (gB.length - at_)) rfl rfl rfl rfl (by omega) (by omega)) rfl rfl ?_
    have hcut := hrg.cut at_ 1 cg (gB.length - at_) (by intro hh; simp; omega)
    rw [Nat.mul_one, ← List.map_drop, ← List.map_take] at hcut
    refine XR_a (op_str hcut rfl (by rw [List.length_take, List.length_drop]; omega) rfl rfl rfl) rfl rfl ?_
    refine XR_a (op_eqlS rfl rfl) rfl rfl ?_
    refine XR_as (.bool true) (congrArg Value.bool (decide_eq_true rfl)) ?_
    refine XR_a (op_pick_t rfl rfl) rfl rfl ?_
    refine XR_wn (opl_store_pt st 1 rfl rfl rfl rfl rfl (rfl)) rfl rfl fun _ hp st => ?_
    simp only [List.set_cons_zero, List.set_cons_succ] at st
    refine XR_nil ?_
    refine X_seq ?_
    refine X_reg ?_
    refine XR_a (op_ld (st.cell 0 (i := 0) rfl rfl) rfl rfl rfl) rfl rfl ?_
    refine XR_a (op_move rfl) rfl rfl ?_
    refine XR_a (op_len rfl rfl rfl) rfl rfl ?_
    refine XR_a (op_addI rfl rfl (by simp only [inK]; omega)) rfl rfl ?_
    refine XR_as (nV (at_ + (gB.length - at_))) (congrArg (Value.int .i64) (by omega)) ?_
    refine XR_wn (opl_store_pt st 0 rfl rfl rfl rfl rfl (rfl)) rfl rfl fun _ hp st => ?_
    simp only [List.set_cons_zero, List.set_cons_succ] at st
    refine XR_nil ?_
    refine X_seq ?_
    refine X_reg ?_
    refine XR_a (op_ld (st.cell 2 (i := 0) rfl rfl) rfl rfl rfl) rfl rfl ?_
    first | refine XR_a (op_addN (n := 1) rfl rfl (by simp only [inK]; omega)) rfl rfl ?_ | refine XR_a (op_addI rfl rfl (by simp only [inK]; omega)) rfl rfl ?_ | refine XR_a (op_add rfl rfl) rfl rfl ?_
    refine XR_wn (opl_store_pt st 2 rfl rfl rfl rfl rfl (rfl)) rfl rfl fun _ hp st => ?_
    simp only [List.set_cons_zero, List.set_cons_succ] at st
    refine XR_nil ?_
    refine X_seq ?_
    refine X_reg ?_
    refine XR_a (op_ld (st.cell 1 (i := 0) rfl rfl) rfl rfl rfl) rfl rfl ?_
    refine XR_a (op_move rfl) rfl rfl ?_
    refine XR_a (op_ld (st.cell 2 (i := 0) rfl rfl) rfl rfl rfl) rfl rfl ?_
    refine XR_a (op_ld (st.cell 5 (i := 0) rfl rfl) rfl rfl rfl) rfl rfl ?_
    refine XR_a (op_neq rfl rfl) rfl rfl ?_
    refine XR_a (op_pick_t rfl rfl) rfl rfl ?_
    refine XR_a (op_assign rfl) rfl rfl ?_
    refine XR_nil ?_
    refine X_ret (.cons (.tmp rfl) .nil) ?_
    exact ⟨rfl, (St.reF [_, _, _, _, _, _, _] 7 st [6, 0, 1, 2, 3, 4, 5] (by decide)).tail⟩
theorem rall_spec {B : Nat} {pr : Option Addr} {F : List Res} {h0 : Heap} (st0 : St B h0 h0 F) :
    Ret Try.prog 18 [.pointer pr] h0 fun v h' => ∃ p, v = .func (.func 50) #[] #[.pointer (some ⟨p, 0, none⟩)] ∧ St B h0 h' (pt p 32 [.pointer pr] :: F) := by
  refine ret_of_X Try.func18 rfl rfl fun w0 hw0 => ?_
  simp only [argE, Nat.zero_add, Nat.reduceAdd]
  have st := st0
  refine X_seq ?_
  refine X_reg ?_
  refine XR_wa (opl_bx (cs := [.pointer pr]) rfl rfl) rfl rfl rfl ?_
  rintro _ hp ⟨p, rfl, hnew⟩
  replace st := st.new hnew
  refine XR_a (op_assign rfl) rfl rfl ?_
  refine XR_nil ?_
  refine X_seq ?_
  refine X_reg ?_
  refine XR_a (op_mkFunc rfl) rfl rfl ?_
  refine XR_a (op_assign rfl) rfl rfl ?_
  refine XR_nil ?_
  refine X_ret (.cons (.tmp rfl) .nil) ?_
  exact ⟨p, rfl, st⟩
theorem all36_spec {B p5 p10 p13 p15 p16 pq pr told0 ng cg gE : Nat} {S : Sou B} {Ag : Option Addr} {till : Int} {gB : List UInt8} {F : List Res} {hG h0 : Heap} (st0 : St B h0 h0 (rdrR S pr gB gE told0 :: pt pq 32 [.pointer (some ⟨pr, 0, none⟩)] :: pt p13 3 [nV told0] :: pt p16 4 [.bool true] :: pt p15 3 [nV 0] :: pt p10 30 (gC 0 (.slice Ag ng cg) gE) :: gRes B hG (.slice Ag ng cg) gB :: pt p5 3 [.int .i64 till] :: F)) (hlw : Low B hG h0) (hls : Low B S.hb h0) (ht0 : told0 ≤ gB.length) (hgl2 : gB.length ≤ 1048576) :
    Ret Try.prog 50 [.func (.func 19) #[] #[.pointer (some ⟨p10, 0, none⟩), .pointer (some ⟨p13, 0, none⟩), .pointer (some ⟨p16, 0, none⟩), .pointer (some ⟨p15, 0, none⟩), .pointer (some ⟨p5, 0, none⟩)], .pointer (some ⟨pq, 0, none⟩)] h0
      fun v h' => ∃ at_ i : Nat, at_ ≤ gB.length ∧ (at_ = gB.length ∨ (i : Int) = till) ∧ St B h0 h' (rdrR S pr gB gE at_ :: pt pq 32 [.pointer (some ⟨pr, 0, none⟩)] :: pt p13 3 [nV at_] :: pt p16 4 [.bool true] :: pt p15 3 [nV i] :: pt p10 30 (gC 0 (.slice Ag ng cg) gE) :: gRes B hG (.slice Ag ng cg) gB :: pt p5 3 [.int .i64 till] :: F) := by
  refine ret_of_X Try.func50 rfl rfl fun w0 hw0 => ?_
  simp only [argE, Nat.zero_add, Nat.reduceAdd]
  refine X_block ?_
  refine X_loop (fun s => gB.length - s.1) (fun s => [(0, .func (.func 19) #[] #[.pointer (some ⟨p10, 0, none⟩), .pointer (some ⟨p13, 0, none⟩), .pointer (some ⟨p16, 0, none⟩), .pointer (some ⟨p15, 0, none⟩), .pointer (some ⟨p5, 0, none⟩)]), (1, .pointer (some ⟨pq, 0, none⟩))])
    (fun (s : Nat × Nat) hp => s.1 ≤ gB.length ∧ s.2 ≤ s.1 ∧ St B h0 hp (rdrR S pr gB gE s.1 :: pt pq 32 [.pointer (some ⟨pr, 0, none⟩)] :: pt p13 3 [nV s.1] :: pt p16 4 [.bool true] :: pt p15 3 [nV s.2] :: pt p10 30 (gC 0 (.slice Ag ng cg) gE) :: gRes B hG (.slice Ag ng cg) gB :: pt p5 3 [.int .i64 till] :: F))
    (told0, 0) (.cons rfl (.cons rfl (.nil _))) ⟨ht0, Nat.zero_le _, st0⟩ ?_
  rintro ⟨told, i⟩ hp ⟨ht, hi, st⟩
  simp only at ht hi st ⊢
  clear st0
  refine X_block ?_
  refine X_seq ?_
  refine X_reg ?_
  refine XR_a (op_ld (st.cell 1 (i := 0) rfl rfl) rfl rfl rfl) rfl rfl ?_
  refine XR_wa (opl_call (rnext_spec st.here (hls.trans st.low) (n := 100) (by simp only [inK]; omega)) rfl (by kernel_rfl)) rfl rfl rfl ?_
  rintro _ hp4 ⟨w4, rfl, st2⟩
  replace st := st.trans st2
  clear st2
  have hK : nextK gB told 100 = min 100 (gB.length - told) := by unfold nextK; rw [if_neg (by omega)]; rfl
  rw [hK] at st
  obtain ⟨A4, n4, c4, rfl, hl4, _⟩ := st.row 0 rfl
  rw [List.length_map, List.length_take, List.length_drop, Nat.mul_one] at hl4
  refine XR_a (op_move rfl) rfl rfl ?_
  refine XR_a (op_extract rfl rfl) rfl rfl ?_
  refine XR_a (op_extract rfl rfl) rfl rfl ?_
  refine XR_a (op_assign rfl) rfl rfl ?_
  refine XR_a (op_assign rfl) rfl rfl ?_
  refine XR_nil ?_
  refine X_seq ?_
  refine X_reg ?_
  refine XR_a (op_move rfl) rfl rfl ?_
  refine XR_a (op_len rfl rfl rfl) rfl rfl ?_
  refine XR_a (op_eql rfl rfl) rfl rfl ?_
  refine XR_a (op_move rfl) rfl rfl ?_
  refine XR_if 13 rfl (fun h => ?_) (fun h => ?_)
  · refine XR_no rfl rfl ?_
    refine XR_no rfl rfl ?_
    refine XR_no rfl rfl ?_
    refine XR_no rfl rfl ?_
    refine XR_a (op_pick_t rfl rfl) rfl rfl ?_
    refine XR_nil ?_
    refine X_then rfl ?_
    refine X_ret .nil ?_
    obtain rfl : told = gB.length := by omega
    refine ⟨gB.length, i, Nat.le_refl _, .inl rfl, ?_⟩
    replace st := st.tail
    rw [show gB.length - gB.length = 0 by omega, Nat.min_zero, Nat.add_zero] at st
    exact st
  · refine XR_a (op_move rfl) rfl rfl ?_
    refine XR_a (op_move rfl) rfl rfl ?_
    have stK := St.reF [_, _, _, _, _, _, _, _, _] 9 st [3, 4, 5, 6, 7, 8, 0, 1, 2] (by decide)
    simp only [List.map_cons, List.map_nil, getR, List.cons_append, List.nil_append] at stK
    refine XR_wa (opl_callV2 rfl rfl rfl (all36_yield (F := _) stK.here (hlw.trans stK.low) (by omega) hgl2 hi) (by kernel_rfl)) rfl rfl rfl ?_
    rintro _ hp5 ⟨rfl, st8⟩
    replace st := stK.trans st8
    clear st8 stK
    replace st := St.reF [_, _, _, _, _, _, _, _] 8 st [6, 7, 0, 1, 2, 3, 4, 5] (by decide)
    simp only [List.map_cons, List.map_nil, getR, List.cons_append, List.nil_append] at st
    first | refine XR_a (op_notd rfl) rfl rfl ?_ | refine XR_a (op_not rfl) rfl rfl ?_
    refine XR_a (op_pick_f rfl rfl) rfl rfl ?_
    refine XR_nil ?_
    refine X_if rfl (fun h => ?_) (fun h => ?_)
    · refine X_ret .nil ?_
      exact ⟨_, i + 1, by omega, .inr (by simpa using h), st⟩
    · refine X_skip ?_
      refine X_blk ?_
      exact X_again (told + min 100 (gB.length - told), i + 1) (.cons rfl (.cons rfl (.nil _))) ⟨by simp only; omega, by simp only; omega, st⟩ (by simp only; omega)
theorem readerAll_ret {m c : Nat} {mt size first till : Int} {A : Option Addr} {l : List UInt8} {h0 : Heap} (hr : Rd h0 A (l.map byteV)) (hl : l.length = m) (hmc : m ≤ c) (hfirst : inK .i64 first) :
    Ret Try.prog 4 [.agg (payC mt size A m c).toArray, .int .i64 first, .int .i64 till] h0 fun v h' => v = .bool true ∧ Ext h0 h' := by
  refine ret_of_X Try.func4 rfl rfl fun w0 hw0 => ?_
  simp only [argE, Nat.zero_add, Nat.reduceAdd]
  have st := St.start h0
  refine X_seq ?_
  refine X_reg ?_
  refine XR_wa (opl_bx (cs := payC mt size A m c) rfl rfl) rfl rfl rfl ?_
  rintro _ hp ⟨p3, rfl, hnew⟩
  replace st := st.new hnew
  refine XR_wa (opl_bx (cs := [.int .i64 till]) rfl rfl) rfl rfl rfl ?_
  rintro _ hp ⟨p5, rfl, hnew⟩
  replace st := st.new hnew
  refine XR_a (op_assign rfl) rfl rfl ?_
  refine XR_nil ?_
  refine X_seq ?_
  refine X_reg ?_
  refine XR_a (op_assign rfl) rfl rfl ?_
  refine XR_nil ?_
  refine X_seq ?_
  refine X_reg ?_
  refine XR_a (op_move rfl) rfl rfl ?_
  refine XR_a (op_move rfl) rfl rfl ?_
  refine XR_wa (opl_call (rnext_nil _ _) rfl (by kernel_rfl)) rfl rfl rfl ?_
  rintro _ _ ⟨rfl, rfl⟩
  refine XR_a (op_move rfl) rfl rfl ?_
  refine XR_a (op_extract rfl rfl) rfl rfl ?_
  refine XR_a (op_extract rfl rfl) rfl rfl ?_
  refine XR_a (op_assign rfl) rfl rfl ?_
  refine XR_a (op_assign rfl) rfl rfl ?_
  refine XR_nil ?_
  refine X_seq ?_
  refine X_seq ?_
  refine X_reg ?_
  refine XR_a (op_move rfl) rfl rfl ?_
  refine XR_a (op_neq rfl rfl) rfl rfl ?_
  refine XR_as (.bool false) (congrArg Value.bool (decide_eq_false (by simp))) ?_
  refine XR_a (op_move rfl) rfl rfl ?_
  refine XR_a (op_move rfl) rfl rfl ?_
  refine XR_wa (opl_call (rat_rd_nil _) rfl (by kernel_rfl)) rfl rfl rfl ?_
  rintro _ _ ⟨rfl, rfl⟩
  refine XR_a (op_neq rfl rfl) rfl rfl ?_
  refine XR_as (.bool false) (congrArg Value.bool (decide_eq_false (by simp))) ?_
  refine XR_a (op_pick_f rfl rfl) rfl rfl ?_
  refine XR_a (op_move rfl) rfl rfl ?_
  refine XR_a (op_move rfl) rfl rfl ?_
  refine XR_wa (opl_call (rdone_nil _) rfl (by kernel_rfl)) rfl rfl rfl ?_
  rintro _ _ ⟨rfl, rfl⟩
  refine XR_a (op_pick_f rfl rfl) rfl rfl ?_
  refine XR_nil ?_
  refine X_else rfl ?_
  refine X_skip ?_
  refine X_seq ?_
  refine X_seq ?_
  refine X_reg ?_
  refine XR_a (op_ldA (vs := payC mt size A m c) (st.cells 1 rfl) rfl rfl rfl rfl) rfl rfl ?_
  refine XR_wa (opl_call (great36 _ _ _ _ _ _) rfl (by kernel_rfl)) rfl rfl rfl ?_
  rintro _ hp ⟨rfl, hx⟩
  replace st := st.ext hx
  refine XR_nil ?_
  refine X_if rfl (fun h => ?_) (fun h => ?_)
  · refine X_seq ?_
    refine X_reg ?_
    refine XR_wa (opl_call (lives36 _) rfl (by kernel_rfl)) rfl rfl rfl ?_
    rintro _ hp ⟨rfl, hx⟩
    refine XR_a (op_assign rfl) rfl rfl ?_
    refine XR_nil ?_
    refine X_ret (.cons (.tmp rfl) .nil) ?_
    exact ⟨rfl, Ext.trans st.low hx⟩
  · refine X_skip ?_
    refine X_seq ?_
    refine X_reg ?_
    first | refine XR_a (op_field0 rfl rfl) rfl rfl ?_ | refine XR_a (op_fieldn rfl rfl) rfl rfl ?_
    refine XR_a (op_ld (st.cell 1 (i := 0) rfl rfl) rfl rfl rfl) rfl rfl ?_
    first | refine XR_a (op_field0 rfl rfl) rfl rfl ?_ | refine XR_a (op_fieldn rfl rfl) rfl rfl ?_
    refine XR_a (op_ld (st.cell 1 (i := 1) rfl rfl) rfl rfl rfl) rfl rfl ?_
    first | refine XR_a (op_field0 rfl rfl) rfl rfl ?_ | refine XR_a (op_fieldn rfl rfl) rfl rfl ?_
    refine XR_a (op_ld (st.cell 1 (i := 2) rfl rfl) rfl rfl rfl) rfl rfl ?_
    refine XR_wa (opl_call (gives_ref2 st.here st.low (fun h' hh => hr.ext hh) hl (by omega) hmc) rfl (by kernel_rfl)) rfl rfl rfl ?_
    rintro _ hp ⟨w, gE, gB, rfl, how, hG, hgn, st2⟩
    replace st := st.trans st2
    clear st2
    refine XR_wa (opl_new rfl) rfl rfl rfl ?_
    rintro _ hp ⟨p10, rfl, hnew⟩
    replace st := st.new hnew
    refine XR_wn (opl_store_whole (us := gC (newE mt l size) w gE) st 0 rfl rfl rfl rfl rfl (gC_one how) rfl) rfl rfl fun _ hq st => ?_
    simp only [List.set_cons_zero, List.set_cons_succ] at st
    refine XR_nil ?_
    refine X_seq ?_
    refine X_reg ?_
    first | refine XR_a (op_field0 rfl rfl) rfl rfl ?_ | refine XR_a (op_fieldn rfl rfl) rfl rfl ?_
    refine XR_a (op_ld (st.cell 3 (i := 0) rfl rfl) rfl rfl rfl) rfl rfl ?_
    first | refine XR_a (op_field0 rfl rfl) rfl rfl ?_ | refine XR_a (op_fieldn rfl rfl) rfl rfl ?_
    refine XR_a (op_ld (st.cell 3 (i := 1) rfl rfl) rfl rfl rfl) rfl rfl ?_
    first | refine XR_a (op_field0 rfl rfl) rfl rfl ?_ | refine XR_a (op_fieldn rfl rfl) rfl rfl ?_
    refine XR_a (op_ld (st.cell 3 (i := 2) rfl rfl) rfl rfl rfl) rfl rfl ?_
    refine XR_wa (opl_call (rdnew_spec st.here (fun h' hh => hr.ext (st.low.trans hh)) hl (by omega) hmc) rfl (by kernel_rfl)) rfl rfl rfl ?_
    rintro _ hp2 ⟨w2, rfl, hbad, hgood⟩
    have hx0 := st.low
    refine XR_a (op_move rfl) rfl rfl ?_
    refine XR_a (op_extract rfl rfl) rfl rfl ?_
    refine XR_a (op_extract rfl rfl) rfl rfl ?_
    refine XR_a (op_assign rfl) rfl rfl ?_
    refine XR_a (op_assign rfl) rfl rfl ?_
    refine XR_nil ?_
    refine X_seq ?_
    refine X_seq ?_
    refine X_reg ?_
    refine XR_a (op_move rfl) rfl rfl ?_
    by_cases hN : newE mt l size = 0
    · obtain ⟨pr, S, rfl, hSb, hst⟩ := hgood hN
      have hg := hG hN
      rw [hN] at *
      have st := hst _ _ hg
      clear hbad hgood hst hG hgn
      refine XR_a (op_neq rfl rfl) rfl rfl ?_
      refine XR_as (.bool false) (congrArg Value.bool (decide_eq_false (by simp))) ?_
      refine XR_a (op_move rfl) rfl rfl ?_
      refine XR_a (op_move rfl) rfl rfl ?_
      refine XR_a (op_ptr_nil rfl rfl rfl) rfl rfl ?_
      refine XR_a (op_pick_f rfl rfl) rfl rfl ?_
      refine XR_nil ?_
      refine X_else rfl ?_
      refine X_skip ?_
      refine X_seq ?_
      refine X_reg ?_
      refine XR_a (op_move rfl) rfl rfl ?_
      refine XR_a (op_move rfl) rfl rfl ?_
      refine XR_wa (opl_call (rnext_spec st.here (by rw [hSb]; exact st.low) hfirst) rfl (by kernel_rfl)) rfl rfl rfl ?_
      rintro _ hp4 ⟨w4, rfl, st2⟩
      replace st := (st.trans st2).tail
      clear st2
      obtain ⟨told, htold⟩ : ∃ t, 0 + nextK gB 0 first = t := ⟨_, rfl⟩
      rw [htold] at st
      have htl : told ≤ gB.length := by
        unfold nextK at htold
        split at htold <;> omega
      have hgl2 : gB.length ≤ 1048576 := by
        obtain ⟨_, _, _, h3, _⟩ := St.rdr st
        have := S.hlim
        omega
      obtain ⟨Ag, ng, cg, rfl, hgl, hgc, hrg⟩ := st.gRes 2 rfl (hx0.trans st.low)
      clear hrg
      refine XR_nil ?_
      refine X_seq ?_
      refine X_reg ?_
      refine XR_a (op_move rfl) rfl rfl ?_
      refine XR_wa (opl_call (rat_rd st) rfl (by kernel_rfl)) rfl rfl rfl ?_
      rintro _ _ ⟨rfl, rfl⟩
      refine XR_wa (opl_new rfl) rfl rfl rfl ?_
      rintro _ hp ⟨p13, rfl, hnew⟩
      replace st := st.new hnew
      refine XR_wn (opl_store_pt st 0 rfl rfl rfl rfl rfl (rfl)) rfl rfl fun _ hp st => ?_
      simp only [List.set_cons_zero, List.set_cons_succ] at st
      refine XR_nil ?_
      refine X_seq ?_
      refine X_reg ?_
      refine XR_a (op_move rfl) rfl rfl ?_
      refine XR_wa (opl_call (rall_spec st.here) rfl (by kernel_rfl)) rfl rfl rfl ?_
      rintro _ hp5 ⟨pq, rfl, st2⟩
      replace st := st.trans st2
      clear st2
      refine XR_a (op_assign rfl) rfl rfl ?_
      refine XR_nil ?_
      refine X_seq ?_
      refine X_seq ?_
      refine X_reg ?_
      refine XR_a (op_move rfl) rfl rfl ?_
      refine XR_a (op_func_eql rfl rfl rfl) rfl rfl ?_
      refine XR_nil ?_
      refine X_else rfl ?_
      refine X_skip ?_
      refine X_seq ?_
      refine X_reg ?_
      refine XR_wa (opl_new rfl) rfl rfl rfl ?_
      rintro _ hp ⟨p15, rfl, hnew⟩
      replace st := st.new hnew
      refine XR_wn (opl_store_pt st 0 rfl rfl rfl rfl rfl (rfl)) rfl rfl fun _ hp st => ?_
      simp only [List.set_cons_zero, List.set_cons_succ] at st
      refine XR_nil ?_
      refine X_seq ?_
      refine X_reg ?_
      refine XR_wa (opl_new rfl) rfl rfl rfl ?_
      rintro _ hp ⟨p16, rfl, hnew⟩
      replace st := st.new hnew
      refine XR_wn (opl_store_pt st 0 rfl rfl rfl rfl rfl (rfl)) rfl rfl fun _ hp st => ?_
      simp only [List.set_cons_zero, List.set_cons_succ] at st
      refine XR_nil ?_
      refine X_seq ?_
      refine X_reg ?_
      refine XR_a (op_move rfl) rfl rfl ?_
      refine XR_a (op_mkFunc rfl) rfl rfl ?_
      replace st := st.re 9 [4, 2, 3, 0, 1, 5, 6, 7, 8] (by decide)
      simp only [List.map_cons, List.map_nil, getR] at st
      refine XR_wa (opl_callV2 rfl rfl rfl (all36_spec (F := [pt p3 24 (payC mt size A m c)]) st.here (hx0.trans st.low) (by rw [hSb]; exact st.low) htl hgl2) (by kernel_rfl)) rfl rfl rfl ?_
      rintro _ hp6 ⟨at_, i, hat, hfin, st2⟩
      replace st := st.trans st2
      clear st2
      refine XR_nil ?_
      refine X_seq ?_
      refine X_draw_in (butAt [(3, .grow)]) [0, 1, 2, 4, 3, 5, 6, 7, 8, 9, 10, 11, 12, 13, 14, 15, 16, 17, 18, 19, 20, 21, 22] (by kernel_rfl) (by kernel_rfl) rfl ?_
      refine XR_a (op_ld (st.cell 3 (i := 0) rfl rfl) rfl rfl rfl) rfl rfl ?_
      refine XR_a (op_move rfl) rfl rfl ?_
      refine XR_a (op_move rfl) rfl rfl ?_
      refine XR_a (op_ld (st.cell 2 (i := 0) rfl rfl) rfl rfl rfl) rfl rfl ?_
      refine XR_ga (opl_call (rat_rd st) rfl (by kernel_rfl)) rfl rfl rfl (fun _ _ h => h.2 ▸ Ext.refl _) ?_
      rintro _ _ ⟨rfl, rfl⟩
      refine XR_a (op_eql rfl rfl) rfl rfl ?_
      refine XR_as (.bool true) (congrArg Value.bool (decide_eq_true rfl)) ?_
      refine XR_a (op_pick_t rfl rfl) rfl rfl ?_
      refine XR_a (op_move rfl) rfl rfl ?_
      refine XR_a (op_ld (st.cell 2 (i := 0) rfl rfl) rfl rfl rfl) rfl rfl ?_
      first | refine XR_a (op_field0 rfl rfl) rfl rfl ?_ | refine XR_a (op_fieldn rfl rfl) rfl rfl ?_
      refine XR_a (op_ld (st.cell 5 (i := 1) rfl rfl) rfl rfl rfl) rfl rfl ?_
      refine XR_a (op_len rfl rfl rfl) rfl rfl ?_
      refine XR_a (op_eql rfl rfl) rfl rfl ?_
      refine XR_a (op_move rfl) rfl rfl ?_
      refine XR_if 96 rfl (fun h => ?_) (fun h => ?_)
      · refine XR_no rfl rfl ?_
        refine XR_no rfl rfl ?_
        refine XR_no rfl rfl ?_
        refine XR_a (op_pick_t rfl rfl) rfl rfl ?_
        refine XR_a (op_pick_t rfl rfl) rfl rfl ?_
        refine XR_a (op_move rfl) rfl rfl ?_
        refine XR_wa (opl_call (lives36 _) rfl (by kernel_rfl)) rfl rfl rfl ?_
        rintro _ hp ⟨rfl, hx⟩
        refine XR_a (op_pick_t rfl rfl) rfl rfl ?_
        refine XR_a (op_assign rfl) rfl rfl ?_
        refine XR_nil ?_
        refine X_ret (.cons (.tmp rfl) .nil) ?_
        exact ⟨rfl, Ext.trans (hx0.trans st.low) hx⟩
      · obtain rfl : (i : Int) = till := by omega
        refine XR_a (op_ld (st.cell 4 (i := 0) rfl rfl) rfl rfl rfl) rfl rfl ?_
        refine XR_a (op_ld (st.cell 7 (i := 0) rfl rfl) rfl rfl rfl) rfl rfl ?_
        refine XR_a (op_eql rfl rfl) rfl rfl ?_
        refine XR_as (.bool true) (congrArg Value.bool (decide_eq_true rfl)) ?_
        refine XR_a (op_pick_f rfl rfl) rfl rfl ?_
        refine XR_a (op_pick_t rfl rfl) rfl rfl ?_
        refine XR_a (op_move rfl) rfl rfl ?_
        refine XR_wa (opl_call (lives36 _) rfl (by kernel_rfl)) rfl rfl rfl ?_
        rintro _ hp ⟨rfl, hx⟩
        refine XR_a (op_pick_t rfl rfl) rfl rfl ?_
        refine XR_a (op_assign rfl) rfl rfl ?_
        refine XR_nil ?_
        refine X_ret (.cons (.tmp rfl) .nil) ?_
        exact ⟨rfl, Ext.trans (hx0.trans st.low) hx⟩
    · obtain ⟨rfl, st⟩ := hbad hN
      clear hbad hgood hG hgn
      refine XR_a (op_neq rfl rfl) rfl rfl ?_
      refine XR_as (.bool true) (congrArg Value.bool (decide_eq_true (by omega))) ?_
      refine XR_a (op_move rfl) rfl rfl ?_
      refine XR_no rfl rfl ?_
      refine XR_no rfl rfl ?_
      refine XR_a (op_pick_t rfl rfl) rfl rfl ?_
      refine XR_nil ?_
      refine X_then rfl ?_
      refine X_seq ?_
      refine X_reg ?_
      refine XR_a (op_move rfl) rfl rfl ?_
      first | refine XR_a (op_field0 rfl rfl) rfl rfl ?_ | refine XR_a (op_fieldn rfl rfl) rfl rfl ?_
      refine XR_a (op_ld (st.cell 0 (i := 0) rfl rfl) rfl rfl rfl) rfl rfl ?_
      refine XR_a (op_eql rfl rfl) rfl rfl ?_
      refine XR_as (.bool true) (congrArg Value.bool (decide_eq_true rfl)) ?_
      refine XR_a (op_move rfl) rfl rfl ?_
      refine XR_a (op_move rfl) rfl rfl ?_
      refine XR_a (op_neq rfl rfl) rfl rfl ?_
      refine XR_as (.bool true) (congrArg Value.bool (decide_eq_true (by omega))) ?_
      refine XR_a (op_pick_t rfl rfl) rfl rfl ?_
      refine XR_a (op_move rfl) rfl rfl ?_
      refine XR_wa (opl_call (lives36 _) rfl (by kernel_rfl)) rfl rfl rfl ?_
      rintro _ hp ⟨rfl, hx⟩
      refine XR_a (op_pick_t rfl rfl) rfl rfl ?_
      refine XR_a (op_assign rfl) rfl rfl ?_
      refine XR_nil ?_
      refine X_ret (.cons (.tmp rfl) .nil) ?_
      exact ⟨rfl, Ext.trans (hx0.trans st.low) hx⟩
end Go.Bn
end
