/- The contracts of bindleref07.Row and Lengths. -/
import Derived.Test.YtdiglnhhmbhhjaaRefLen
import Derived.Test.YtdiglnhhmbhhjaaOpsG
set_option linter.unusedVariables false
set_option linter.unusedSimpArgs false
set_option maxHeartbeats 4000000
set_option maxRecDepth 20000
namespace Go.Bn
open Go Proofs

def eV (x : PE × Value) : List Value := [nV x.1.1, x.2]
def okH (h : Heap) (x : PE × Value) : Prop := ∃ A n c, x.2 = .slice A n c ∧ x.1.2.length = n ∧ Rd h A (x.1.2.map nV)
theorem okH.ext {h h' : Heap} {x : PE × Value} (h1 : okH h x) (hx : Ext h h') : okH h' x := by
  obtain ⟨A, n, c, e1, e2, e3⟩ := h1
  exact ⟨A, n, c, e1, e2, e3.ext hx⟩

theorem row_ref {n c q e : Nat} {A C : Option Addr} {ws sy : List Nat} {pr : List (PE × Value)} {h0 : Heap} (hr : Rd h0 A (sy.flatMap (pC ws))) (hm : sy.length = n) (hp : Rd h0 C (pr.flatMap eV)) (hq : pr.length = q) (hok : ∀ x ∈ pr, okH h0 x)
    (hn : n ≤ 65536) (hqm : q ≤ 131072) (hpw : ∀ x ∈ pr, x.1.1 ≤ 1152921504606846976) (hpl : ∀ x ∈ pr, x.1.2.length ≤ 1073741824) :
    Ret Try.prog 75 [.slice A n c, .slice C q e] h0 fun v h' => ∃ (rs : List (PE × Value)) (L : List (Value × List Value)), rs.map (·.1) = (itemsE (sy.map (wkey ws))).merge (pairsE (pr.map (·.1))) lePE ∧ (∀ x ∈ rs, (x.2, x.1.2.map nV) ∈ L) ∧
      St h0.size h0 h' [rowsR 3 1 L, row 118 2 v (rs.flatMap eV)] := by
  have hIl : (itemsE (sy.map (wkey ws))).length = n := by rw [itemsE_length, List.length_map, hm]
  have hPl := pairsE_length (pr.map (·.1))
  rw [List.length_map, hq] at hPl
  have hIi : ∀ i (hi : i < n), (itemsE (sy.map (wkey ws)))[i]'(by omega) = (wkey ws (sy[i]'(by omega)), [i]) := fun i hi => by
    rw [itemsE_get (by rw [List.length_map]; omega), List.getElem_map]
  have hPi : ∀ k (h : k < (pairsE (pr.map (·.1))).length) (h1 : 2 * k + 1 < pr.length), (pairsE (pr.map (·.1)))[k] = ((pr[2 * k]'(by omega)).1.1 + pr[2 * k + 1].1.1, (pr[2 * k]'(by omega)).1.2 ++ pr[2 * k + 1].1.2) := fun k h h1 => by
    rw [pairsE_at k _ h (by rw [List.length_map]; exact h1)]
    simp only [List.getElem_map]
  obtain ⟨I, hI⟩ : ∃ I, itemsE (sy.map (wkey ws)) = I := ⟨_, rfl⟩
  obtain ⟨P, hP⟩ : ∃ P, pairsE (pr.map (·.1)) = P := ⟨_, rfl⟩
  simp only [hI, hP] at hIl hPl hIi hPi ⊢
  have hget : ∀ i (hi : i < n), ∃ g o, A = some ⟨g, o, none⟩ ∧ ∀ {hp : Heap}, Ext h0 hp → cellH hp ⟨g, o + i * 2 + 1, none⟩ = some (nV (wkey ws (sy[i]'(by omega)))) := fun i hi => by
    obtain ⟨g, o, rfl, hc⟩ := Rd.flat (pC ws) 2 hr (fun _ => rfl) (by omega) (by omega)
    exact ⟨g, o, rfl, fun hx => cellH_ext (a := ⟨g, o + i * 2 + 1, none⟩) hx (hc i (by omega) 1 _ rfl)⟩
  refine ret_of_X Try.func75 rfl rfl fun w0 hw0 => ?_
  simp only [argE, Nat.zero_add, Nat.reduceAdd]
  refine X_seq ?_
  refine X_reg ?_
  refine XR_a (op_assign rfl) rfl rfl ?_
  refine XR_nil ?_
  refine X_seq ?_
  refine X_reg ?_
  refine XR_a (op_assign rfl) rfl rfl ?_
  refine XR_nil ?_
  refine X_seq ?_
  refine X_reg ?_
  refine XR_a (op_assign rfl) rfl rfl ?_
  refine XR_nil ?_
  refine X_seq ?_
  refine X_seq ?_
  refine X_reg ?_
  refine XR_a (op_assign rfl) rfl rfl ?_
  refine XR_nil ?_
  refine X_block ?_
  have st := St.perm ((St.start h0).nilrow 118 2) (List.Perm.refl _)
  refine X_loop (fun s => q - s.2.1) (fun s => [(0, .slice A n c), (1, .slice C q e), (5, s.2.2.1), (6, nV s.1), (7, nV (2 * s.2.1))])
    (fun (s : Nat × Nat × Value × List (PE × Value) × List (Value × List Value)) hp => St h0.size h0 hp [rowsR 3 1 s.2.2.2.2, row 118 2 s.2.2.1 (s.2.2.2.1.flatMap eV)] ∧ s.1 ≤ n ∧ s.2.1 ≤ q / 2 ∧ s.2.2.2.1.length = s.1 + s.2.1 ∧ (∀ x ∈ s.2.2.2.1, (x.2, x.1.2.map nV) ∈ s.2.2.2.2) ∧
      s.2.2.2.1.map (·.1) ++ (I.drop s.1).merge (P.drop s.2.1) lePE = I.merge P lePE)
    (0, 0, _, [], []) (.cons rfl (.cons rfl (.cons rfl (.cons rfl (.cons rfl (.nil _)))))) ⟨St.emp.2 st, by simp only; omega, by simp only; omega, rfl, by simp, by simp⟩ ?_
  clear st
  rintro ⟨i, k, v, rs, L⟩ hp2 ⟨st, hi, hk, hout, hL, hmg⟩
  simp only at st hi hk hout hL hmg ⊢
  refine X_seq ?_
  refine X_seq ?_
  refine X_reg ?_
  refine XR_a (op_move rfl) rfl rfl ?_
  refine XR_a (op_move rfl) rfl rfl ?_
  refine XR_a (op_len rfl rfl rfl) rfl rfl ?_
  first | refine XR_a (op_subN (n := 1) rfl rfl (by omega) (by simp only [inK]; omega)) rfl rfl ?_ | refine XR_a (op_subI rfl rfl (by simp only [inK]; omega)) rfl rfl ?_ | refine XR_a (op_sub rfl rfl) rfl rfl ?_
  refine XR_a (op_lss rfl rfl) rfl rfl ?_
  refine XR_nil ?_
  refine X_if rfl (fun h => ?_) (fun h => ?_)
  · refine X_skip ?_
    refine X_seq ?_
    refine X_block ?_
    refine X_seq ?_
    have hk1 : 2 * k < pr.length := by omega
    have hk2 : 2 * k + 1 < pr.length := by omega
    obtain ⟨gC, oC, rfl, hcC⟩ := Rd.flat eV 2 hp (fun _ => rfl) (by omega) (by omega)
    have hw1 := hpw _ (List.getElem_mem hk1)
    have hw2 := hpw _ (List.getElem_mem hk2)
    have hkP : k < P.length := by omega
    have hPe := hPi k hkP hk2
    have hl1 := fun {hp : Heap} (hx : Ext h0 hp) => cellH_ext (a := ⟨gC, oC + 2 * k * 2 + 0, none⟩) hx (hcC (2 * k) hk1 0 (nV pr[2 * k].1.1) rfl)
    have hl2 := fun {hp : Heap} (hx : Ext h0 hp) => cellH_ext (a := ⟨gC, oC + (2 * k + 1) * 2 + 0, none⟩) hx (hcC (2 * k + 1) hk2 0 (nV pr[2 * k + 1].1.1) rfl)
    have hl3 := fun {hp : Heap} (hx : Ext h0 hp) => cellH_ext (a := ⟨gC, oC + 2 * k * 2 + 1, none⟩) hx (hcC (2 * k) hk1 1 pr[2 * k].2 rfl)
    have hl4 := fun {hp : Heap} (hx : Ext h0 hp) => cellH_ext (a := ⟨gC, oC + (2 * k + 1) * 2 + 1, none⟩) hx (hcC (2 * k + 1) hk2 1 pr[2 * k + 1].2 rfl)
    obtain ⟨A1, m1, c1, ev1, el1, er1⟩ := hok _ (List.getElem_mem hk1)
    obtain ⟨A2, m2, c2, ev2, el2, er2⟩ := hok _ (List.getElem_mem hk2)
    have hb1 := hpl _ (List.getElem_mem hk1)
    have hb2 := hpl _ (List.getElem_mem hk2)
    rw [ev1] at hl3
    rw [ev2] at hl4
    obtain ⟨⟨w1, H1⟩, hx1⟩ : ∃ x, pr[2 * k].1 = x := ⟨_, rfl⟩
    obtain ⟨⟨w2, H2⟩, hx2⟩ : ∃ x, pr[2 * k + 1].1 = x := ⟨_, rfl⟩
    simp only [hx1, hx2] at hw1 hw2 hl1 hl2 hPe el1 er1 el2 er2 hb1 hb2
    refine X_draw byKind (by kernel_rfl) (by kernel_rfl) ?_
    refine XR_a (op_move rfl) rfl rfl ?_
    refine XR_a (op_move rfl) rfl rfl ?_
    refine XR_a (op_index (i := 2 * k) rfl rfl rfl (by omega)) rfl rfl ?_
    first | refine XR_a (op_field0 rfl rfl) rfl rfl ?_ | refine XR_a (op_fieldn rfl rfl) rfl rfl ?_
    refine XR_a (op_ld (hl1 st.low) rfl rfl rfl) rfl rfl ?_
    refine XR_a (op_move rfl) rfl rfl ?_
    refine XR_a (op_move rfl) rfl rfl ?_
    first | refine XR_a (op_addN (n := 1) rfl rfl (by simp only [inK]; omega)) rfl rfl ?_ | refine XR_a (op_addI rfl rfl (by simp only [inK]; omega)) rfl rfl ?_ | refine XR_a (op_add rfl rfl) rfl rfl ?_
    refine XR_a (op_index (i := 2 * k + 1) rfl rfl rfl (by omega)) rfl rfl ?_
    first | refine XR_a (op_field0 rfl rfl) rfl rfl ?_ | refine XR_a (op_fieldn rfl rfl) rfl rfl ?_
    refine XR_a (op_ld (hl2 st.low) rfl rfl rfl) rfl rfl ?_
    first | refine XR_a (op_addN rfl rfl (by simp only [inK]; omega)) rfl rfl ?_ | refine XR_a (op_addI rfl rfl (by simp only [inK]; omega)) rfl rfl ?_ | refine XR_a (op_add rfl rfl) rfl rfl ?_
    refine XR_a (op_assign rfl) rfl rfl ?_
    refine XR_nil ?_
    refine X_seq ?_
    refine X_block ?_
    refine X_loop (fun s => n - s.1) (fun s => [(0, .slice A n c), (1, .slice (some ⟨gC, oC, none⟩) q e), (5, s.2.1), (6, nV s.1), (7, nV (2 * k)), (8, nV (w1 + w2))])
      (fun (s : Nat × Value × List (PE × Value) × List (Value × List Value)) hp => St h0.size h0 hp [rowsR 3 1 s.2.2.2, row 118 2 s.2.1 (s.2.2.1.flatMap eV)] ∧ s.1 ≤ n ∧ s.2.2.1.length = s.1 + k ∧ (∀ x ∈ s.2.2.1, (x.2, x.1.2.map nV) ∈ s.2.2.2) ∧
        s.2.2.1.map (·.1) ++ (I.drop s.1).merge (P.drop k) lePE = I.merge P lePE)
      (i, v, rs, L) (.cons rfl (.cons rfl (.cons rfl (.cons rfl (.cons rfl (.cons rfl (.nil _))))))) ⟨st, hi, hout, hL, hmg⟩ ?_
    clear st hi hout hL hmg
    rintro ⟨i, v, rs, L⟩ hp2 ⟨st, hi, hout, hL, hmg⟩
    simp only at st hi hout hL hmg ⊢
    refine X_seq ?_
    refine X_seq ?_
    refine X_reg ?_
    refine XR_a (op_move rfl) rfl rfl ?_
    refine XR_a (op_move rfl) rfl rfl ?_
    refine XR_a (op_len rfl rfl rfl) rfl rfl ?_
    refine XR_a (op_lss rfl rfl) rfl rfl ?_
    refine XR_a (op_move rfl) rfl rfl ?_
    refine XR_if 32 rfl (fun h => ?_) (fun h => ?_)
    · have hin : i < n := by omega
      obtain ⟨gA, oA, rfl, hcell⟩ := hget i hin
      have hIe := hIi i hin
      refine XR_a (op_move rfl) rfl rfl ?_
      refine XR_a (op_move rfl) rfl rfl ?_
      first | refine XR_a (op_index1 rfl rfl rfl (by omega)) rfl rfl ?_ | refine XR_a (op_index rfl rfl rfl (by omega)) rfl rfl ?_
      first | refine XR_a (op_field0 rfl rfl) rfl rfl ?_ | refine XR_a (op_fieldn rfl rfl) rfl rfl ?_
      refine XR_a (op_ld (hcell st.low) rfl rfl rfl) rfl rfl ?_
      refine XR_a (op_move rfl) rfl rfl ?_
      refine XR_a (op_leq rfl rfl) rfl rfl ?_
      refine XR_a (op_pick_t rfl rfl) rfl rfl ?_
      refine XR_nil ?_
      refine X_if rfl (fun h => ?_) (fun h => ?_)
      · refine X_skip ?_
        refine X_block ?_
        refine X_seq ?_
        refine X_reg ?_
        refine XR_a (op_move rfl) rfl rfl ?_
        refine XR_a (op_move rfl) rfl rfl ?_
        refine XR_a (op_move rfl) rfl rfl ?_
        first | refine XR_a (op_index1 rfl rfl rfl (by omega)) rfl rfl ?_ | refine XR_a (op_index rfl rfl rfl (by omega)) rfl rfl ?_
        first | refine XR_a (op_field0 rfl rfl) rfl rfl ?_ | refine XR_a (op_fieldn rfl rfl) rfl rfl ?_
        refine XR_a (op_ld (hcell st.low) rfl rfl rfl) rfl rfl ?_
        refine XR_a (op_move rfl) rfl rfl ?_
        refine XR_wa (opl_lit1 rfl rfl rfl) rfl rfl rfl ?_
        rintro v9 hp hnew
        replace st := st.new hnew
        obtain ⟨A9, n9, c9, rfl, _⟩ := st.row 0 rfl
        refine XR_a (op_build (ps := [(0, nV (wkey ws sy[i])), (1, .slice A9 n9 c9)]) (cs := (eV ((wkey ws sy[i], [i]), .slice A9 n9 c9)).toArray) rfl rfl) rfl rfl ?_
        refine XR_wa (opl_varA (us := eV ((wkey ws sy[i], [i]), .slice A9 n9 c9)) rfl rfl rfl rfl (by kernel_rfl)) rfl rfl rfl ?_
        rintro _ hp ⟨A8, rfl, hx8, hrd⟩
        replace st := st.ext hx8
        refine XR_wa (opl_append st 2 rfl (hrd) (rfl) (by intro u hu; simp only [eV, List.mem_cons, List.not_mem_nil, or_false] at hu; rcases hu with rfl | rfl <;> rfl) (by rw [flat_length _ 2 (fun _ => rfl)]; simp [eV]; omega) rfl rfl rfl rfl rfl rfl rfl) rfl rfl rfl fun v hp st => ?_
        simp only [List.set_cons_zero, List.set_cons_succ] at st
        have e2 : rs.flatMap eV ++ eV ((wkey ws sy[i], [i]), .slice A9 n9 c9) = (rs ++ [((wkey ws sy[i], [i]), Value.slice A9 n9 c9)]).flatMap eV := by rw [List.flatMap_append]; simp
        rw [e2] at st
        have st2 : St h0.size h0 hp [rowsR 3 1 ((Value.slice A9 n9 c9, [nV i]) :: L), _] := St.star.2 st
        refine XR_a (op_assign rfl) rfl rfl ?_
        refine XR_nil ?_
        refine X_reg ?_
        refine XR_a (op_move rfl) rfl rfl ?_
        first | refine XR_a (op_addN (n := 1) rfl rfl (by simp only [inK]; omega)) rfl rfl ?_ | refine XR_a (op_addI rfl rfl (by simp only [inK]; omega)) rfl rfl ?_ | refine XR_a (op_add rfl rfl) rfl rfl ?_
        refine XR_a (op_assign rfl) rfl rfl ?_
        refine XR_nil ?_
        refine X_blk ?_
        refine X_again (i + 1, v, rs ++ [((wkey ws sy[i], [i]), Value.slice A9 n9 c9)], (Value.slice A9 n9 c9, [nV i]) :: L) (.cons rfl (.cons rfl (.cons rfl (.cons rfl (.cons rfl (.cons rfl (.nil _))))))) ⟨st2, by simp only; omega, by simp only [List.length_append, List.length_cons, List.length_nil]; omega, fun x hx => ?_, ?_⟩ (by simp only; omega)
        · rcases List.mem_append.1 hx with h1 | h1
          · exact List.mem_cons_of_mem _ (hL x h1)
          · rw [List.mem_singleton.1 h1]; exact List.mem_cons_self
        · rw [← hmg, merge_item (I := I) (P := P) (i := i) (k := k) (by omega) (fun hk9 => by rw [hIe, hPe]; simp only; omega), hIe]
          simp
      · refine X_exit rfl ?_
        have hpush : (∀ hi : i < I.length, ¬ I[i].1 ≤ P[k].1) → rs.map (·.1) ++ P[k] :: (I.drop i).merge (P.drop (k + 1)) lePE = I.merge P lePE := fun h9 => by
          rw [← hmg, merge_pair (I := I) (i := i) hkP h9]
        refine X_draw_in (butAt [(8, .grow)]) [0, 1, 3, 4, 5, 6, 7, 9, 10, 11, 12, 13, 14, 2, 8, 15, 16, 17, 18, 19] (by kernel_rfl) (by kernel_rfl) rfl ?_
        refine XR_a (op_move rfl) rfl rfl ?_
        refine XR_a (op_move rfl) rfl rfl ?_
        refine XR_a (op_move rfl) rfl rfl ?_
        refine XR_a (op_move rfl) rfl rfl ?_
        refine XR_a (op_index (i := 2 * k) rfl rfl rfl (by omega)) rfl rfl ?_
        first | refine XR_a (op_field0 rfl rfl) rfl rfl ?_ | refine XR_a (op_fieldn rfl rfl) rfl rfl ?_
        refine XR_a (op_ld (hl3 st.low) rfl rfl rfl) rfl rfl ?_
        refine XR_a (op_move rfl) rfl rfl ?_
        refine XR_a (op_move rfl) rfl rfl ?_
        first | refine XR_a (op_addN (n := 1) rfl rfl (by simp only [inK]; omega)) rfl rfl ?_ | refine XR_a (op_addI rfl rfl (by simp only [inK]; omega)) rfl rfl ?_ | refine XR_a (op_add rfl rfl) rfl rfl ?_
        refine XR_a (op_index (i := 2 * k + 1) rfl rfl rfl (by omega)) rfl rfl ?_
        first | refine XR_a (op_field0 rfl rfl) rfl rfl ?_ | refine XR_a (op_fieldn rfl rfl) rfl rfl ?_
        refine XR_a (op_ld (hl4 st.low) rfl rfl rfl) rfl rfl ?_
        refine XR_ga (opl_lit0p rfl) rfl rfl rfl (fun _ _ ⟨_, _, e⟩ => e.1) ?_
        rintro _ hp ⟨gb, rfl, hnew⟩
        replace st := st.new hnew
        refine XR_ga (opl_append_lit st 0 rfl (er1.ext st.low) (by rw [List.length_map]; omega) (one_nV _) (by simp; omega) rfl rfl rfl rfl rfl rfl rfl) rfl rfl rfl (fun _ _ h => h.1) ?_
        rintro v9 hp ⟨hx9, st⟩
        simp only [List.set_cons_zero] at st
        refine XR_wa (opl_append st 0 rfl (er2.ext st.low) (by rw [List.length_map]; omega) (one_nV _) (by simp; omega) rfl rfl rfl rfl rfl rfl rfl) rfl rfl rfl fun v hp st => ?_
        simp only [List.set_cons_zero, List.set_cons_succ] at st
        rw [← List.map_append] at st
        obtain ⟨A9, n9, c9, rfl, _⟩ := st.row 0 rfl
        refine XR_a (op_build (ps := [(0, nV (w1 + w2)), (1, .slice A9 n9 c9)]) (cs := (eV ((w1 + w2, H1 ++ H2), .slice A9 n9 c9)).toArray) rfl rfl) rfl rfl ?_
        refine XR_ga (opl_varA (us := eV ((w1 + w2, H1 ++ H2), .slice A9 n9 c9)) rfl rfl rfl rfl (by kernel_rfl)) rfl rfl rfl (fun _ _ ⟨_, _, e, _⟩ => e) ?_
        rintro _ hp ⟨A8, rfl, hx8, hrd⟩
        replace st := st.ext hx8
        refine XR_wa (opl_append st 2 rfl (hrd) (rfl) (by intro u hu; simp only [eV, List.mem_cons, List.not_mem_nil, or_false] at hu; rcases hu with rfl | rfl <;> rfl) (by rw [flat_length _ 2 (fun _ => rfl)]; simp [eV]; omega) rfl rfl rfl rfl rfl rfl rfl) rfl rfl rfl fun v hp st => ?_
        simp only [List.set_cons_zero, List.set_cons_succ] at st
        have e2 : rs.flatMap eV ++ eV ((w1 + w2, H1 ++ H2), .slice A9 n9 c9) = (rs ++ [((w1 + w2, H1 ++ H2), Value.slice A9 n9 c9)]).flatMap eV := by rw [List.flatMap_append]; simp
        rw [e2] at st
        have st2 : St h0.size h0 hp [rowsR 3 1 ((Value.slice A9 n9 c9, (H1 ++ H2).map nV) :: L), _] := St.star.2 st
        refine XR_a (op_assign rfl) rfl rfl ?_
        refine XR_nil ?_
        refine X_blk ?_
        refine X_reg ?_
        refine XR_a (op_move rfl) rfl rfl ?_
        first | refine XR_a (op_addN (n := 2) rfl rfl (by simp only [inK]; omega)) rfl rfl ?_ | refine XR_a (op_addI rfl rfl (by simp only [inK]; omega)) rfl rfl ?_ | refine XR_a (op_add rfl rfl) rfl rfl ?_
        refine XR_a (op_assign rfl) rfl rfl ?_
        refine XR_nil ?_
        refine X_again (i, k + 1, v, rs ++ [((w1 + w2, H1 ++ H2), Value.slice A9 n9 c9)], (Value.slice A9 n9 c9, (H1 ++ H2).map nV) :: L) (.cons rfl (.cons rfl (.cons rfl (.cons rfl (.cons rfl (.nil _)))))) ⟨st2, hi, by simp only; omega, by simp only [List.length_append, List.length_cons, List.length_nil]; omega, fun x hx => ?_, ?_⟩ (by simp only; omega)
        · rcases List.mem_append.1 hx with h1 | h1
          · exact List.mem_cons_of_mem _ (hL x h1)
          · rw [List.mem_singleton.1 h1]; exact List.mem_cons_self
        · have h9 := hpush (fun hi9 => by rw [hIe, hPe]; simp only; omega)
          rw [hPe] at h9
          simpa using h9
    · have h32 := h
      refine XR_no rfl rfl ?_
      refine XR_no rfl rfl ?_
      refine XR_no rfl rfl ?_
      refine XR_no rfl rfl ?_
      refine XR_no rfl rfl ?_
      refine XR_no rfl rfl ?_
      refine XR_no rfl rfl ?_
      refine XR_a (op_pick_f rfl rfl) rfl rfl ?_
      refine XR_nil ?_
      refine X_else rfl ?_
      refine X_exit rfl ?_
      have hpush : (∀ hi : i < I.length, ¬ I[i].1 ≤ P[k].1) → rs.map (·.1) ++ P[k] :: (I.drop i).merge (P.drop (k + 1)) lePE = I.merge P lePE := fun h9 => by
        rw [← hmg, merge_pair (I := I) (i := i) hkP h9]
      refine X_draw_in (butAt [(8, .grow)]) [0, 1, 3, 4, 5, 6, 7, 9, 10, 11, 12, 13, 14, 2, 8, 15, 16, 17, 18, 19] (by kernel_rfl) (by kernel_rfl) rfl ?_
      refine XR_a (op_move rfl) rfl rfl ?_
      refine XR_a (op_move rfl) rfl rfl ?_
      refine XR_a (op_move rfl) rfl rfl ?_
      refine XR_a (op_move rfl) rfl rfl ?_
      refine XR_a (op_index (i := 2 * k) rfl rfl rfl (by omega)) rfl rfl ?_
      first | refine XR_a (op_field0 rfl rfl) rfl rfl ?_ | refine XR_a (op_fieldn rfl rfl) rfl rfl ?_
      refine XR_a (op_ld (hl3 st.low) rfl rfl rfl) rfl rfl ?_
      refine XR_a (op_move rfl) rfl rfl ?_
      refine XR_a (op_move rfl) rfl rfl ?_
      first | refine XR_a (op_addN (n := 1) rfl rfl (by simp only [inK]; omega)) rfl rfl ?_ | refine XR_a (op_addI rfl rfl (by simp only [inK]; omega)) rfl rfl ?_ | refine XR_a (op_add rfl rfl) rfl rfl ?_
      refine XR_a (op_index (i := 2 * k + 1) rfl rfl rfl (by omega)) rfl rfl ?_
      first | refine XR_a (op_field0 rfl rfl) rfl rfl ?_ | refine XR_a (op_fieldn rfl rfl) rfl rfl ?_
      refine XR_a (op_ld (hl4 st.low) rfl rfl rfl) rfl rfl ?_
      refine XR_ga (opl_lit0p rfl) rfl rfl rfl (fun _ _ ⟨_, _, e⟩ => e.1) ?_
      rintro _ hp ⟨gb, rfl, hnew⟩
      replace st := st.new hnew
      refine XR_ga (opl_append_lit st 0 rfl (er1.ext st.low) (by rw [List.length_map]; omega) (one_nV _) (by simp; omega) rfl rfl rfl rfl rfl rfl rfl) rfl rfl rfl (fun _ _ h => h.1) ?_
      rintro v9 hp ⟨hx9, st⟩
      simp only [List.set_cons_zero] at st
      refine XR_wa (opl_append st 0 rfl (er2.ext st.low) (by rw [List.length_map]; omega) (one_nV _) (by simp; omega) rfl rfl rfl rfl rfl rfl rfl) rfl rfl rfl fun v hp st => ?_
      simp only [List.set_cons_zero, List.set_cons_succ] at st
      rw [← List.map_append] at st
      obtain ⟨A9, n9, c9, rfl, _⟩ := st.row 0 rfl
      refine XR_a (op_build (ps := [(0, nV (w1 + w2)), (1, .slice A9 n9 c9)]) (cs := (eV ((w1 + w2, H1 ++ H2), .slice A9 n9 c9)).toArray) rfl rfl) rfl rfl ?_
      refine XR_ga (opl_varA (us := eV ((w1 + w2, H1 ++ H2), .slice A9 n9 c9)) rfl rfl rfl rfl (by kernel_rfl)) rfl rfl rfl (fun _ _ ⟨_, _, e, _⟩ => e) ?_
      rintro _ hp ⟨A8, rfl, hx8, hrd⟩
      replace st := st.ext hx8
      refine XR_wa (opl_append st 2 rfl (hrd) (rfl) (by intro u hu; simp only [eV, List.mem_cons, List.not_mem_nil, or_false] at hu; rcases hu with rfl | rfl <;> rfl) (by rw [flat_length _ 2 (fun _ => rfl)]; simp [eV]; omega) rfl rfl rfl rfl rfl rfl rfl) rfl rfl rfl fun v hp st => ?_
      simp only [List.set_cons_zero, List.set_cons_succ] at st
      have e2 : rs.flatMap eV ++ eV ((w1 + w2, H1 ++ H2), .slice A9 n9 c9) = (rs ++ [((w1 + w2, H1 ++ H2), Value.slice A9 n9 c9)]).flatMap eV := by rw [List.flatMap_append]; simp
      rw [e2] at st
      have st2 : St h0.size h0 hp [rowsR 3 1 ((Value.slice A9 n9 c9, (H1 ++ H2).map nV) :: L), _] := St.star.2 st
      refine XR_a (op_assign rfl) rfl rfl ?_
      refine XR_nil ?_
      refine X_blk ?_
      refine X_reg ?_
      refine XR_a (op_move rfl) rfl rfl ?_
      first | refine XR_a (op_addN (n := 2) rfl rfl (by simp only [inK]; omega)) rfl rfl ?_ | refine XR_a (op_addI rfl rfl (by simp only [inK]; omega)) rfl rfl ?_ | refine XR_a (op_add rfl rfl) rfl rfl ?_
      refine XR_a (op_assign rfl) rfl rfl ?_
      refine XR_nil ?_
      refine X_again (i, k + 1, v, rs ++ [((w1 + w2, H1 ++ H2), Value.slice A9 n9 c9)], (Value.slice A9 n9 c9, (H1 ++ H2).map nV) :: L) (.cons rfl (.cons rfl (.cons rfl (.cons rfl (.cons rfl (.nil _)))))) ⟨st2, hi, by simp only; omega, by simp only [List.length_append, List.length_cons, List.length_nil]; omega, fun x hx => ?_, ?_⟩ (by simp only; omega)
      · rcases List.mem_append.1 hx with h1 | h1
        · exact List.mem_cons_of_mem _ (hL x h1)
        · rw [List.mem_singleton.1 h1]; exact List.mem_cons_self
      · have h9 := hpush (fun hi9 => by omega)
        rw [hPe] at h9
        simpa using h9
  · refine X_exit rfl ?_
    refine X_seq ?_
    refine X_block ?_
    have hkq : P.length ≤ k := by omega
    refine X_loop (fun s => n - s.1) (fun s => [(0, .slice A n c), (5, s.2.1), (6, nV s.1)])
      (fun (s : Nat × Value × List (PE × Value) × List (Value × List Value)) hp => St h0.size h0 hp [rowsR 3 1 s.2.2.2, row 118 2 s.2.1 (s.2.2.1.flatMap eV)] ∧ s.1 ≤ n ∧ s.2.2.1.length = s.1 + k ∧ (∀ x ∈ s.2.2.1, (x.2, x.1.2.map nV) ∈ s.2.2.2) ∧
        s.2.2.1.map (·.1) ++ (I.drop s.1).merge (P.drop k) lePE = I.merge P lePE)
      (i, v, rs, L) (.cons rfl (.cons rfl (.cons rfl (.nil _)))) ⟨st, hi, hout, hL, hmg⟩ ?_
    clear st hi hout hL hmg
    rintro ⟨i, v, rs, L⟩ hp2 ⟨st, hi, hout, hL, hmg⟩
    simp only at st hi hout hL hmg ⊢
    refine X_seq ?_
    refine X_seq ?_
    refine X_reg ?_
    refine XR_a (op_move rfl) rfl rfl ?_
    refine XR_a (op_move rfl) rfl rfl ?_
    refine XR_a (op_len rfl rfl rfl) rfl rfl ?_
    refine XR_a (op_lss rfl rfl) rfl rfl ?_
    refine XR_nil ?_
    refine X_if rfl (fun h => ?_) (fun h => ?_)
    · have hin : i < n := by omega
      obtain ⟨gA, oA, rfl, hcell⟩ := hget i hin
      have hIe := hIi i hin
      refine X_skip ?_
      refine X_block ?_
      refine X_seq ?_
      refine X_reg ?_
      refine XR_a (op_move rfl) rfl rfl ?_
      refine XR_a (op_move rfl) rfl rfl ?_
      refine XR_a (op_move rfl) rfl rfl ?_
      first | refine XR_a (op_index1 rfl rfl rfl (by omega)) rfl rfl ?_ | refine XR_a (op_index rfl rfl rfl (by omega)) rfl rfl ?_
      first | refine XR_a (op_field0 rfl rfl) rfl rfl ?_ | refine XR_a (op_fieldn rfl rfl) rfl rfl ?_
      refine XR_a (op_ld (hcell st.low) rfl rfl rfl) rfl rfl ?_
      refine XR_a (op_move rfl) rfl rfl ?_
      refine XR_wa (opl_lit1 rfl rfl rfl) rfl rfl rfl ?_
      rintro v9 hp hnew
      replace st := st.new hnew
      obtain ⟨A9, n9, c9, rfl, _⟩ := st.row 0 rfl
      refine XR_a (op_build (ps := [(0, nV (wkey ws sy[i])), (1, .slice A9 n9 c9)]) (cs := (eV ((wkey ws sy[i], [i]), .slice A9 n9 c9)).toArray) rfl rfl) rfl rfl ?_
      refine XR_wa (opl_varA (us := eV ((wkey ws sy[i], [i]), .slice A9 n9 c9)) rfl rfl rfl rfl (by kernel_rfl)) rfl rfl rfl ?_
      rintro _ hp ⟨A8, rfl, hx8, hrd⟩
      replace st := st.ext hx8
      refine XR_wa (opl_append st 2 rfl (hrd) (rfl) (by intro u hu; simp only [eV, List.mem_cons, List.not_mem_nil, or_false] at hu; rcases hu with rfl | rfl <;> rfl) (by rw [flat_length _ 2 (fun _ => rfl)]; simp [eV]; omega) rfl rfl rfl rfl rfl rfl rfl) rfl rfl rfl fun v hp st => ?_
      simp only [List.set_cons_zero, List.set_cons_succ] at st
      have e2 : rs.flatMap eV ++ eV ((wkey ws sy[i], [i]), .slice A9 n9 c9) = (rs ++ [((wkey ws sy[i], [i]), Value.slice A9 n9 c9)]).flatMap eV := by rw [List.flatMap_append]; simp
      rw [e2] at st
      have st2 : St h0.size h0 hp [rowsR 3 1 ((Value.slice A9 n9 c9, [nV i]) :: L), _] := St.star.2 st
      refine XR_a (op_assign rfl) rfl rfl ?_
      refine XR_nil ?_
      refine X_reg ?_
      refine XR_a (op_move rfl) rfl rfl ?_
      first | refine XR_a (op_addN (n := 1) rfl rfl (by simp only [inK]; omega)) rfl rfl ?_ | refine XR_a (op_addI rfl rfl (by simp only [inK]; omega)) rfl rfl ?_ | refine XR_a (op_add rfl rfl) rfl rfl ?_
      refine XR_a (op_assign rfl) rfl rfl ?_
      refine XR_nil ?_
      refine X_blk ?_
      refine X_again (i + 1, v, rs ++ [((wkey ws sy[i], [i]), Value.slice A9 n9 c9)], (Value.slice A9 n9 c9, [nV i]) :: L) (.cons rfl (.cons rfl (.cons rfl (.nil _)))) ⟨st2, by simp only; omega, by simp only [List.length_append, List.length_cons, List.length_nil]; omega, fun x hx => ?_, ?_⟩ (by simp only; omega)
      · rcases List.mem_append.1 hx with h1 | h1
        · exact List.mem_cons_of_mem _ (hL x h1)
        · rw [List.mem_singleton.1 h1]; exact List.mem_cons_self
      · rw [← hmg, merge_item (I := I) (P := P) (i := i) (k := k) (by omega) (fun hk9 => by omega), hIe]
        simp
    · refine X_exit rfl ?_
      refine X_seq ?_
      refine X_reg ?_
      refine XR_a (op_move rfl) rfl rfl ?_
      refine XR_a (op_assign rfl) rfl rfl ?_
      refine XR_nil ?_
      refine X_ret (.cons (.tmp rfl) .nil) ?_
      rw [List.drop_of_length_le (by omega), List.drop_of_length_le (by omega), List.merge_right, List.append_nil] at hmg
      exact ⟨rs, L, hmg, hL, st⟩
end Go.Bn
