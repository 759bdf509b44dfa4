/- The contract of bindleref07.Lengths. -/
import Derived.Test.YtdiglnhhmbhhjaaRefLen2
import Derived.Test.YtdiglnhhmbhhjaaCanonR
set_option linter.unusedVariables false
set_option linter.unusedSimpArgs false
set_option maxHeartbeats 4000000
set_option maxRecDepth 20000
namespace Go.Bn
open Go Proofs

/-- How often each symbol's item stands in a row of items' numbers. -/
noncomputable def cntL (ws F : List Nat) : List Nat := (List.range ws.length).map fun s => F.count ((syms ws).idxOf s)
theorem cntL_len (ws F : List Nat) : (cntL ws F).length = ws.length := by simp [cntL]
theorem cntL_nil (ws : List Nat) : cntL ws [] = List.replicate ws.length 0 := by
  refine List.ext_getElem (by simp [cntL]) fun i h1 h2 => ?_
  simp [cntL]
theorem cntL_get {ws F : List Nat} {s : Nat} (hs : s < ws.length) : (cntL ws F)[s]? = some (F.count ((syms ws).idxOf s)) := by
  unfold cntL; simp [hs]
theorem cntL_set {ws F : List Nat} {x : Nat} (hx : x < (syms ws).length) : (cntL ws F).set ((syms ws).getD x 0) (F.count x + 1) = cntL ws (F ++ [x]) := by
  refine List.ext_getElem (by simp [cntL]) fun i h1 h2 => ?_
  have hi : i < ws.length := by simpa [cntL] using h2
  rw [List.getElem_set]
  have hxi := idxOf_getD hx
  by_cases h : (syms ws).getD x 0 = i
  · rw [if_pos h]
    simp only [cntL, List.getElem_map, List.getElem_range]
    rw [← h, hxi, List.count_append]; simp
  · rw [if_neg h]
    simp only [cntL, List.getElem_map, List.getElem_range]
    have hne : ¬ x = (syms ws).idxOf i := fun he => by
      have hl : (syms ws).idxOf i < (syms ws).length := by omega
      have := List.getElem_idxOf hl
      refine h ?_
      rw [getD_eq hx, ← this]
      simp only [he]
    rw [List.count_append, List.count_singleton, beq_eq_false_iff_ne.2 hne]; rfl
theorem rowE_idx {ws : List Nat} : ∀ j, ∀ e ∈ rowE ws j, ∀ x ∈ e.2, x < ws.length
  | 0, e, h => by simp [rowE] at h
  | j + 1, e, h => by
    rw [rowE, List.mem_merge] at h
    rcases h with h | h
    · simp only [itemsE, List.mem_map, List.mem_range] at h
      obtain ⟨i, hi, rfl⟩ := h
      intro x hx
      obtain rfl : x = i := by simpa using hx
      exact hi
    · obtain ⟨u, v, hu, hv, rfl⟩ := pairsE_mem h
      intro x hx
      rcases List.mem_append.1 hx with h1 | h1
      · exact rowE_idx j u hu x h1
      · exact rowE_idx j v hv x h1
theorem rowE_hlen {ws : List Nat} : ∀ j, ∀ e ∈ rowE ws j, e.2.length ≤ 2 ^ j
  | 0, e, h => by simp [rowE] at h
  | j + 1, e, h => by
    have hp : 2 ^ (j + 1) = 2 * 2 ^ j := by rw [Nat.pow_succ, Nat.mul_comm]
    have hp1 : 0 < 2 ^ j := Nat.pow_pos (by omega)
    rw [rowE, List.mem_merge] at h
    rcases h with h | h
    · simp only [itemsE, List.mem_map, List.mem_range] at h
      obtain ⟨i, hi, rfl⟩ := h
      simp only [List.length_cons, List.length_nil]; omega
    · obtain ⟨u, v, hu, hv, rfl⟩ := pairsE_mem h
      have := rowE_hlen j u hu
      have := rowE_hlen j v hv
      simp only [List.length_append]; omega
theorem rowE_wbd {ws : List Nat} {b : Nat} (hw : ∀ x ∈ ws, x ≤ b) : ∀ j, ∀ e ∈ rowE ws j, e.1 ≤ b * 2 ^ j
  | 0, e, h => by simp [rowE] at h
  | j + 1, e, h => by
    have hp : 2 ^ (j + 1) = 2 * 2 ^ j := by rw [Nat.pow_succ, Nat.mul_comm]
    have hp1 : 0 < 2 ^ j := Nat.pow_pos (by omega)
    rw [rowE, List.mem_merge] at h
    rcases h with h | h
    · simp only [itemsE, List.mem_map, List.mem_range] at h
      obtain ⟨i, hi, rfl⟩ := h
      have := hw _ (List.getElem_mem hi)
      have e : ws.getD i 0 = ws[i] := getD_eq hi
      simp only [e]
      have : b * 1 ≤ b * 2 ^ (j + 1) := Nat.mul_le_mul_left _ (by omega)
      omega
    · obtain ⟨u, v, hu, hv, rfl⟩ := pairsE_mem h
      have h1 := rowE_wbd hw j u hu
      have h2 := rowE_wbd hw j v hv
      simp only
      rw [hp, Nat.mul_left_comm]; omega

theorem lengths_ref {n c : Nat} {A : Option Addr} {ws : List Nat} {h0 : Heap} (hr : Rd h0 A (ws.map nV)) (hl : ws.length = n) (hn : n ≤ 320) (hwb : ∀ s, wkey ws s ≤ 1073741824) :
    Ret Try.prog 34 [.slice A n c] h0 fun v h' => St h0.size h0 h' [row 3 1 v ((lensW ws).map nV)] := by
  have hsl := syms_len ws
  refine ret_of_X Try.func34 rfl rfl fun w0 hw0 => ?_
  simp only [argE, Nat.zero_add, Nat.reduceAdd]
  have st := St.start h0
  refine X_seq ?_
  refine X_reg ?_
  refine XR_a (op_assign rfl) rfl rfl ?_
  refine XR_nil ?_
  refine X_seq ?_
  refine X_reg ?_
  refine XR_a (op_move rfl) rfl rfl ?_
  refine XR_a (op_len rfl rfl rfl) rfl rfl ?_
  refine XR_wa (opl_mk (by omega) rfl rfl rfl) rfl rfl rfl ?_
  rintro v hp hnew
  have st := st.new hnew
  obtain ⟨Ao, no, co, rfl, hno, _, _, _⟩ := st.row 0 rfl
  rw [List.length_replicate, Nat.mul_one] at hno
  obtain rfl : n = no := hno
  rw [show List.replicate n (Value.int .i64 0) = (cntL ws []).map nV by rw [cntL_nil, List.map_replicate, hl]; rfl] at st
  refine XR_a (op_assign rfl) rfl rfl ?_
  refine XR_nil ?_
  refine X_seq ?_
  refine X_reg ?_
  refine XR_a (op_move rfl) rfl rfl ?_
  refine XR_wa (opl_call (items_ref (hr.ext st.low) hl (by omega)) rfl (by kernel_rfl)) rfl rfl rfl ?_
  rintro v2 hp2 st2
  obtain ⟨As, ns, cs, rfl, hls, _, _, _⟩ := st2.row 0 rfl
  rw [flat_length _ 2 (fun _ => rfl)] at hls
  replace st := st.join st2
  simp only [List.cons_append, List.nil_append] at st
  refine XR_a (op_assign rfl) rfl rfl ?_
  refine XR_nil ?_
  refine X_seq ?_
  refine X_seq ?_
  refine X_reg ?_
  refine XR_a (op_move rfl) rfl rfl ?_
  refine XR_a (op_len rfl rfl rfl) rfl rfl ?_
  refine XR_a (op_eql rfl rfl) rfl rfl ?_
  refine XR_nil ?_
  refine X_if rfl (fun h => ?_) (fun h => ?_)
  · have h3 : (syms ws).length = 1 := by omega
    obtain ⟨g5, o5, rfl, hc5⟩ := Rd.flat (pC ws) 2 (st.rdS 0 rfl).2 (fun _ => rfl) (by omega) (by omega)
    have hs0 := hc5 0 (by omega) 0 (nV ((syms ws).getD 0 0)) (by rw [getD_eq (by omega)]; rfl)
    have hsn := (mem_syms.1 (getD_mem (l := syms ws) (i := 0) (by omega))).1
    obtain ⟨go, no', co', heo, _⟩ := st.row0 1 rfl (by rw [List.length_map, cntL_len]; omega)
    cases heo
    refine X_reg ?_
    refine XR_a (op_move rfl) rfl rfl ?_
    refine XR_a (op_move rfl) rfl rfl ?_
    refine XR_a (op_index (i := 0) rfl rfl rfl (by omega)) rfl rfl ?_
    first | refine XR_a (op_field0 rfl rfl) rfl rfl ?_ | refine XR_a (op_fieldn rfl rfl) rfl rfl ?_
    refine XR_a (op_ld (hs0) rfl rfl rfl) rfl rfl ?_
    first | refine XR_a (op_index1 rfl rfl rfl (by omega)) rfl rfl ?_ | refine XR_a (op_index rfl rfl rfl (by omega)) rfl rfl ?_
    refine XR_wn (opl_store_row (v := nV 1) st 1 rfl rfl rfl (by rw [List.length_map, cntL_len]; exact hsn) rfl rfl) rfl rfl fun _ hp st => ?_
    simp only [List.set_cons_zero, List.set_cons_succ] at st
    rw [map_set_nV, cntL_nil, lensW_single h3] at st
    refine XR_nil ?_
    refine X_seq ?_
    refine X_seq ?_
    refine X_reg ?_
    refine XR_a (op_move rfl) rfl rfl ?_
    refine XR_a (op_len rfl rfl rfl) rfl rfl ?_
    refine XR_a (op_lss rfl rfl) rfl rfl ?_
    refine XR_nil ?_
    refine X_if rfl (fun h => ?_) (fun h => ?_)
    · refine X_seq ?_
      refine X_reg ?_
      refine XR_a (op_move rfl) rfl rfl ?_
      refine XR_a (op_assign rfl) rfl rfl ?_
      refine XR_nil ?_
      refine X_ret (.cons (.tmp rfl) .nil) ?_
      exact st.tail
    · exact absurd h (by omega)
  · refine X_skip ?_
    refine X_seq ?_
    refine X_seq ?_
    refine X_reg ?_
    refine XR_a (op_move rfl) rfl rfl ?_
    refine XR_a (op_len rfl rfl rfl) rfl rfl ?_
    refine XR_a (op_lss rfl rfl) rfl rfl ?_
    refine XR_nil ?_
    refine X_if rfl (fun h => ?_) (fun h => ?_)
    · refine X_seq ?_
      refine X_reg ?_
      refine XR_a (op_move rfl) rfl rfl ?_
      refine XR_a (op_assign rfl) rfl rfl ?_
      refine XR_nil ?_
      refine X_ret (.cons (.tmp rfl) .nil) ?_
      rw [lensW_zero (by omega), ← cntL_nil]
      exact st.tail
    · refine X_skip ?_
      refine X_seq ?_
      have h2n : 2 ≤ (syms ws).length := by omega
      obtain ⟨go, no', co', heo, _⟩ := st.row0 1 rfl (by rw [List.length_map, cntL_len]; omega)
      cases heo
      have hswl := sws_length ws
      have hwE := fun j => rowE_wbd (ws := sws ws) (b := 1073741824) (fun x hx => by obtain ⟨s, _, rfl⟩ := List.mem_map.1 hx; exact hwb s) j
      refine X_reg ?_
      refine XR_a (op_assign rfl) rfl rfl ?_
      refine XR_nil ?_
      refine X_seq ?_
      refine X_seq ?_
      refine X_reg ?_
      refine XR_a (op_assign rfl) rfl rfl ?_
      refine XR_nil ?_
      refine X_block ?_
      replace st := (st.nilrow 118 2)
      replace st : St h0.size h0 _ [rowsR 3 1 [], _, _, _] := St.emp.2 st
      refine X_loop (fun s => 15 - s.1) (fun s => [(3, .slice (some ⟨go, 0, none⟩) n co), (4, .slice As ns cs), (5, s.2.1), (6, nV s.1)])
        (fun (s : Nat × Value × List (PE × Value) × List (Value × List Value)) hp => s.1 ≤ 15 ∧ s.2.2.1.map (·.1) = rowE (sws ws) s.1 ∧ (∀ x ∈ s.2.2.1, (x.2, x.1.2.map nV) ∈ s.2.2.2) ∧
          St h0.size h0 hp [rowsR 3 1 s.2.2.2, row 118 2 s.2.1 (s.2.2.1.flatMap eV), row 114 2 (.slice As ns cs) ((syms ws).flatMap (pC ws)), row 3 1 (.slice (some ⟨go, 0, none⟩) n co) ((cntL ws []).map nV)])
        (0, _, [], []) (.cons rfl (.cons rfl (.cons rfl (.cons rfl (.nil _))))) ⟨by simp only; omega, rfl, by simp, st⟩ ?_
      clear st
      rintro ⟨j, v, rs, L⟩ hp ⟨hj, hrs, hL, st⟩
      simp only at hj hrs hL st ⊢
      obtain ⟨A5, n5, c5, rfl, hn5, _, _, hrd5⟩ := st.row 1 rfl
      rw [flat_length _ 2 (fun _ => rfl)] at hn5
      have hrl : rs.length = n5 := by omega
      have hrE : (rowE (sws ws) j).length = n5 := by rw [← hrs, List.length_map, hrl]
      have hb5 := rowE_bd (sws ws) j
      have hokH : ∀ x ∈ rs, okH hp x := fun x hx => by
        obtain ⟨A6, n6, c6, e1, e2, _, _, e3⟩ := st.rowsAt 0 rfl (hL x hx)
        refine ⟨A6, n6, c6, e1, ?_, e3⟩
        simpa using e2
      have hmemE : ∀ x ∈ rs, x.1 ∈ rowE (sws ws) j := fun x hx => by rw [← hrs]; exact List.mem_map_of_mem hx
      refine X_seq ?_
      refine X_seq ?_
      refine X_reg ?_
      refine XR_a (op_move rfl) rfl rfl ?_
      refine XR_a (op_lss rfl rfl) rfl rfl ?_
      refine XR_nil ?_
      refine X_if rfl (fun h => ?_) (fun h => ?_)
      · have hp15 : 2 ^ j ≤ 32768 := Nat.le_trans (Nat.pow_le_pow_right (n := 2) (by omega) (show j ≤ 15 by omega)) (by decide)
        refine X_skip ?_
        refine X_seq ?_
        refine X_block ?_
        refine X_reg ?_
        refine XR_a (op_move rfl) rfl rfl ?_
        refine XR_a (op_move rfl) rfl rfl ?_
        refine XR_wa (opl_call (row_ref (sy := syms ws) (st.rdS 2 rfl).2 (by omega) hrd5 hrl hokH (by omega) (by omega) (fun x hx => by have h1 := hwE j _ (hmemE x hx); have h2 : 1073741824 * 2 ^ j ≤ 1073741824 * 32768 := Nat.mul_le_mul_left _ hp15; omega) (fun x hx => by have h1 := rowE_hlen j _ (hmemE x hx); omega)) rfl (by kernel_rfl)) rfl rfl rfl ?_
        rintro v7 hp7 ⟨rs', L', e1, e2, st7⟩
        rw [hrs] at e1
        replace st := ((st.join st7).re 6 [0, 1, 4, 5, 2, 3] (by decide)).keep 4
        simp only [List.map_cons, List.map_nil, getR, List.take_succ_cons, List.take_zero] at st
        refine XR_a (op_assign rfl) rfl rfl ?_
        refine XR_nil ?_
        refine X_blk ?_
        refine X_reg ?_
        refine XR_a (op_move rfl) rfl rfl ?_
        first | refine XR_a (op_addN (n := 1) rfl rfl (by simp only [inK]; omega)) rfl rfl ?_ | refine XR_a (op_addI rfl rfl (by simp only [inK]; omega)) rfl rfl ?_ | refine XR_a (op_add rfl rfl) rfl rfl ?_
        refine XR_a (op_assign rfl) rfl rfl ?_
        refine XR_nil ?_
        exact X_again (j + 1, v7, rs', L') (.cons rfl (.cons rfl (.cons rfl (.cons rfl (.nil _))))) ⟨by simp only; omega, e1, e2, st⟩ (by simp only; omega)
      · refine X_exit rfl ?_
        refine X_seq ?_
        refine X_seq ?_
        obtain rfl : j = 15 := by omega
        have hTl := rowW_len h2n (by omega)
        have hcb : ∀ t x, t ≤ (rowE (sws ws) 15).length → (((rowE (sws ws) 15).take t).flatMap (·.2)).count x ≤ 15 := fun t x ht => by
          rw [count_lev (sws_asc ws) 15 t ht x]
          have := lvl_le (lev (sws ws) 15 t) x
          rw [lev_length] at this
          exact this
        refine X_reg ?_
        refine XR_a (op_assign rfl) rfl rfl ?_
        refine XR_nil ?_
        refine X_block ?_
        refine X_loop (fun i => 2 * ns - i) (fun i => [(3, .slice (some ⟨go, 0, none⟩) n co), (4, .slice As ns cs), (5, .slice A5 n5 c5), (7, nV i)])
          (fun (i : Nat) hp => i ≤ 2 * ns - 2 ∧ St h0.size h0 hp [rowsR 3 1 L, row 118 2 (.slice A5 n5 c5) (rs.flatMap eV), row 114 2 (.slice As ns cs) ((syms ws).flatMap (pC ws)), row 3 1 (.slice (some ⟨go, 0, none⟩) n co) ((cntL ws (((rowE (sws ws) 15).take i).flatMap (·.2))).map nV)])
          0 (.cons rfl (.cons rfl (.cons rfl (.cons rfl (.nil _))))) ⟨by omega, by simpa using st⟩ ?_
        clear st hokH hrd5
        rintro i hp2 ⟨hi, st⟩
        refine X_seq ?_
        refine X_seq ?_
        refine X_reg ?_
        refine XR_a (op_move rfl) rfl rfl ?_
        refine XR_a (op_move rfl) rfl rfl ?_
        refine XR_a (op_len rfl rfl rfl) rfl rfl ?_
        first | refine XR_a (op_mulN (m := 2) rfl rfl (by simp only [inK]; omega)) rfl rfl ?_ | refine XR_a (op_mulI rfl rfl (by simp only [inK]; omega)) rfl rfl ?_ | refine XR_a (op_mul rfl rfl) rfl rfl ?_
        refine XR_a (op_subN (m := 2 * ns) (n := 2) rfl rfl (by omega) (by simp only [inK]; omega)) rfl rfl ?_
        refine XR_a (op_lss rfl rfl) rfl rfl ?_
        refine XR_a (op_move rfl) rfl rfl ?_
        refine XR_if 41 rfl (fun h => ?_) (fun h => ?_)
        · refine XR_a (op_move rfl) rfl rfl ?_
          refine XR_a (op_move rfl) rfl rfl ?_
          refine XR_a (op_len rfl rfl rfl) rfl rfl ?_
          refine XR_a (op_lss rfl rfl) rfl rfl ?_
          refine XR_a (op_pick_t rfl rfl) rfl rfl ?_
          refine XR_nil ?_
          refine X_if rfl (fun h => ?_) (fun h => ?_)
          · have hir : i < rs.length := by omega
            have hiE : i < (rowE (sws ws) 15).length := by omega
            have hx1 := hL _ (List.getElem_mem hir)
            have hri : rs[i].1 = (rowE (sws ws) 15)[i] := by
              have : (rs.map (·.1))[i]'(by rw [List.length_map]; exact hir) = (rowE (sws ws) 15)[i] := by simp only [hrs]
              rw [← this, List.getElem_map]
            have htk := List.take_succ_eq_append_getElem hiE
            have hidx := rowE_idx 15 _ (List.getElem_mem hiE)
            rw [hswl] at hidx
            have hhl := rowE_hlen 15 _ (List.getElem_mem hiE)
            obtain ⟨gE, oE, hAe, hcE⟩ := Rd.flat eV 2 (st.rdS 1 rfl).2 (fun _ => rfl) (by omega) (by omega)
            cases hAe
            obtain ⟨⟨e, ve⟩, hee⟩ : ∃ x, rs[i] = x := ⟨_, rfl⟩
            rw [hee] at hri hx1
            simp only at hri hx1
            rw [← hri] at htk hidx hhl
            obtain ⟨A6, n6, c6, hv6, hn6, _, _, _⟩ := st.rowsAt 0 rfl hx1
            simp only at hv6
            subst hv6
            simp only [List.length_map, Nat.mul_one] at hn6
            refine X_skip ?_
            refine X_seq ?_
            refine X_block ?_
            refine X_seq ?_
            refine X_reg ?_
            refine XR_a (op_assign rfl) rfl rfl ?_
            refine XR_nil ?_
            refine X_block ?_
            refine X_loop (fun k => n6 - k) (fun k => [(3, .slice (some ⟨go, 0, none⟩) n co), (4, .slice As ns cs), (5, .slice (some ⟨gE, oE, none⟩) n5 c5), (7, nV i), (8, nV k)])
              (fun (k : Nat) hp => k ≤ n6 ∧ St h0.size h0 hp [rowsR 3 1 L, row 118 2 (.slice (some ⟨gE, oE, none⟩) n5 c5) (rs.flatMap eV), row 114 2 (.slice As ns cs) ((syms ws).flatMap (pC ws)), row 3 1 (.slice (some ⟨go, 0, none⟩) n co) ((cntL ws (((rowE (sws ws) 15).take i).flatMap (·.2) ++ e.2.take k)).map nV)])
              0 (.cons rfl (.cons rfl (.cons rfl (.cons rfl (.cons rfl (.nil _)))))) ⟨by omega, by simpa using st⟩ ?_
            clear st hcE
            rintro k hp3 ⟨hk, st⟩
            obtain ⟨_, _, hAe, hcE⟩ := Rd.flat eV 2 (st.rdS 1 rfl).2 (fun _ => rfl) (by omega) (by omega)
            cases hAe
            have hcv := hcE i hir 1 (.slice A6 n6 c6) (by rw [hee]; rfl)
            refine X_seq ?_
            refine X_seq ?_
            refine X_reg ?_
            refine XR_a (op_move rfl) rfl rfl ?_
            refine XR_a (op_move rfl) rfl rfl ?_
            refine XR_a (op_move rfl) rfl rfl ?_
            refine XR_a (op_index (i := i) rfl rfl rfl (by omega)) rfl rfl ?_
            first | refine XR_a (op_field0 rfl rfl) rfl rfl ?_ | refine XR_a (op_fieldn rfl rfl) rfl rfl ?_
            refine XR_a (op_ld (hcv) rfl rfl rfl) rfl rfl ?_
            refine XR_a (op_len rfl rfl rfl) rfl rfl ?_
            refine XR_a (op_lss rfl rfl) rfl rfl ?_
            refine XR_nil ?_
            refine X_if rfl (fun h => ?_) (fun h => ?_)
            · have hke : k < e.2.length := by omega
              obtain ⟨A6', n6', c6', hv6', _, _, _, hrd6⟩ := st.rowsAt 0 rfl hx1
              cases hv6'
              obtain ⟨g6, o6, rfl, hc6⟩ := hrd6.at_ (by rw [List.length_map]; omega)
              have hce := hc6 k (nV e.2[k]) (by simp [hke])
              have hxs := hidx _ (List.getElem_mem hke)
              obtain ⟨x, hxe⟩ : ∃ x, e.2[k] = x := ⟨_, rfl⟩
              rw [hxe] at hce hxs
              obtain ⟨g7, o7, rfl, hc7⟩ := Rd.flat (pC ws) 2 (st.rdS 2 rfl).2 (fun _ => rfl) (by omega) (by omega)
              have hcs := hc7 x hxs 0 (nV ((syms ws).getD x 0)) (by rw [getD_eq hxs]; rfl)
              have hsn := (mem_syms.1 (getD_mem (l := syms ws) hxs)).1
              have hog := cntL_get (F := ((rowE (sws ws) 15).take i).flatMap (·.2) ++ e.2.take k) hsn
              rw [idxOf_getD hxs] at hog
              obtain ⟨_, _, he8, hc8⟩ := (st.rdS 3 rfl).2.at_ (by rw [List.length_map, cntL_len]; omega)
              cases he8
              have hov := hc8 _ _ (map_get_nV hog)
              have hset := cntL_set (F := ((rowE (sws ws) 15).take i).flatMap (·.2) ++ e.2.take k) hxs
              have hlt : (((rowE (sws ws) 15).take i).flatMap (·.2) ++ e.2.take k).count x ≤ 15 := by
                refine Nat.le_trans (List.Sublist.count_le x ?_) (hcb (i + 1) x hiE)
                rw [htk, List.flatMap_append]
                refine List.Sublist.append_left ?_ _
                simpa using List.take_sublist k e.2
              rw [List.append_assoc, ← hxe, ← List.take_succ_eq_append_getElem hke, hxe] at hset
              obtain ⟨F, hF⟩ : ∃ F, ((rowE (sws ws) 15).take i).flatMap (·.2) ++ e.2.take k = F := ⟨_, rfl⟩
              rw [hF] at hov hset hlt st
              refine X_skip ?_
              refine X_seq ?_
              refine X_block ?_
              refine X_seq ?_
              refine X_reg ?_
              refine XR_a (op_move rfl) rfl rfl ?_
              refine XR_a (op_move rfl) rfl rfl ?_
              refine XR_a (op_move rfl) rfl rfl ?_
              refine XR_a (op_index (i := i) rfl rfl rfl (by omega)) rfl rfl ?_
              first | refine XR_a (op_field0 rfl rfl) rfl rfl ?_ | refine XR_a (op_fieldn rfl rfl) rfl rfl ?_
              refine XR_a (op_ld (hcv) rfl rfl rfl) rfl rfl ?_
              refine XR_a (op_move rfl) rfl rfl ?_
              first | refine XR_a (op_index1 rfl rfl rfl (by omega)) rfl rfl ?_ | refine XR_a (op_index rfl rfl rfl (by omega)) rfl rfl ?_
              refine XR_a (op_ld (hce) rfl rfl rfl) rfl rfl ?_
              refine XR_a (op_index (i := x) rfl rfl rfl (by omega)) rfl rfl ?_
              first | refine XR_a (op_field0 rfl rfl) rfl rfl ?_ | refine XR_a (op_fieldn rfl rfl) rfl rfl ?_
              refine XR_a (op_ld (hcs) rfl rfl rfl) rfl rfl ?_
              refine XR_a (op_assign rfl) rfl rfl ?_
              refine XR_nil ?_
              refine X_reg ?_
              refine XR_a (op_move rfl) rfl rfl ?_
              refine XR_a (op_move rfl) rfl rfl ?_
              refine XR_a (op_move rfl) rfl rfl ?_
              refine XR_a (op_move rfl) rfl rfl ?_
              first | refine XR_a (op_index1 rfl rfl rfl (by omega)) rfl rfl ?_ | refine XR_a (op_index rfl rfl rfl (by omega)) rfl rfl ?_
              refine XR_a (op_ld (hov) rfl rfl rfl) rfl rfl ?_
              first | refine XR_a (op_addN (n := 1) rfl rfl (by simp only [inK]; omega)) rfl rfl ?_ | refine XR_a (op_addI rfl rfl (by simp only [inK]; omega)) rfl rfl ?_ | refine XR_a (op_add rfl rfl) rfl rfl ?_
              first | refine XR_a (op_index1 rfl rfl rfl (by omega)) rfl rfl ?_ | refine XR_a (op_index rfl rfl rfl (by omega)) rfl rfl ?_
              refine XR_wn (opl_store_row (v := nV (F.count x + 1)) st 3 rfl rfl rfl (by rw [List.length_map, cntL_len]; exact hsn) rfl rfl) rfl rfl fun _ hp st => ?_
              simp only [List.set_cons_zero, List.set_cons_succ] at st
              rw [map_set_nV, hset] at st
              refine XR_nil ?_
              refine X_blk ?_
              refine X_reg ?_
              refine XR_a (op_move rfl) rfl rfl ?_
              first | refine XR_a (op_addN (n := 1) rfl rfl (by simp only [inK]; omega)) rfl rfl ?_ | refine XR_a (op_addI rfl rfl (by simp only [inK]; omega)) rfl rfl ?_ | refine XR_a (op_add rfl rfl) rfl rfl ?_
              refine XR_a (op_assign rfl) rfl rfl ?_
              refine XR_nil ?_
              exact X_again (k + 1) (.cons rfl (.cons rfl (.cons rfl (.cons rfl (.cons rfl (.nil _)))))) ⟨by omega, st⟩ (by omega)
            · refine X_exit rfl ?_
              refine X_blk ?_
              refine X_reg ?_
              refine XR_a (op_move rfl) rfl rfl ?_
              first | refine XR_a (op_addN (n := 1) rfl rfl (by simp only [inK]; omega)) rfl rfl ?_ | refine XR_a (op_addI rfl rfl (by simp only [inK]; omega)) rfl rfl ?_ | refine XR_a (op_add rfl rfl) rfl rfl ?_
              refine XR_a (op_assign rfl) rfl rfl ?_
              refine XR_nil ?_
              obtain rfl : k = n6 := by omega
              rw [List.take_of_length_le (l := e.2) (i := k) (by omega)] at st
              have e9 : ((rowE (sws ws) 15).take i).flatMap (·.2) ++ e.2 = ((rowE (sws ws) 15).take (i + 1)).flatMap (·.2) := by
                rw [htk, List.flatMap_append]; simp
              rw [e9] at st
              exact X_again (i + 1) (.cons rfl (.cons rfl (.cons rfl (.cons rfl (.nil _))))) ⟨by omega, st⟩ (by omega)
          · refine X_exit rfl ?_
            refine X_seq ?_
            refine X_reg ?_
            refine XR_a (op_move rfl) rfl rfl ?_
            refine XR_a (op_assign rfl) rfl rfl ?_
            refine XR_nil ?_
            refine X_ret (.cons (.tmp rfl) .nil) ?_
            have hi2 : i = 2 * (syms ws).length - 2 := by omega
            have hfin : cntL ws (((rowE (sws ws) 15).take i).flatMap (·.2)) = lensW ws := by
              rw [hi2]
              unfold cntL lensW
              refine List.map_congr_left fun s _ => ?_
              rw [count_lev (sws_asc ws) 15 _ hTl]
              unfold lenW lvl
              rw [levW_two h2n]
            rw [hfin] at st
            exact st.tail.tail.tail
        · refine XR_no rfl rfl ?_
          refine XR_no rfl rfl ?_
          refine XR_no rfl rfl ?_
          refine XR_no rfl rfl ?_
          refine XR_a (op_pick_f rfl rfl) rfl rfl ?_
          refine XR_nil ?_
          refine X_else rfl ?_
          refine X_exit rfl ?_
          refine X_seq ?_
          refine X_reg ?_
          refine XR_a (op_move rfl) rfl rfl ?_
          refine XR_a (op_assign rfl) rfl rfl ?_
          refine XR_nil ?_
          refine X_ret (.cons (.tmp rfl) .nil) ?_
          have hi2 : i = 2 * (syms ws).length - 2 := by omega
          have hfin : cntL ws (((rowE (sws ws) 15).take i).flatMap (·.2)) = lensW ws := by
            rw [hi2]
            unfold cntL lensW
            refine List.map_congr_left fun s _ => ?_
            rw [count_lev (sws_asc ws) 15 _ hTl]
            unfold lenW lvl
            rw [levW_two h2n]
          rw [hfin] at st
          exact st.tail.tail.tail
end Go.Bn
