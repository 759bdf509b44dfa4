/- Packed texts of a claim: what its theorem uses, joined. -/
import Derived.Test.YtoodeecmplpndaaGreatPkBpt13
section
set_option linter.unusedVariables false
set_option linter.unusedSimpArgs false
set_option maxHeartbeats 4000000
set_option maxRecDepth 20000
namespace Go.Bn
open Go Proofs
noncomputable def outAt (ws L : List Nat) : List Nat := (List.range ws.length).map fun s => lvl L ((syms ws).idxOf s)
noncomputable def outIn (ws L : List Nat) (k : Nat) : List Nat := (List.range ws.length).map fun s => lvl L ((syms ws).idxOf s) + if (syms ws).idxOf s < k then 1 else 0
theorem outAt_nil (ws : List Nat) : outAt ws [] = List.replicate ws.length 0 := by
  refine List.ext_getElem (by simp [outAt]) fun i h1 h2 => ?_
  simp [outAt, lvl]
theorem outAt_len (ws L : List Nat) : (outAt ws L).length = ws.length := by simp [outAt]
theorem outIn_zero (ws L : List Nat) : outIn ws L 0 = outAt ws L := by
  unfold outIn outAt
  refine List.map_congr_left fun s _ => ?_
  rw [if_neg (by omega), Nat.add_zero]
theorem lvl_snoc (L : List Nat) (k i : Nat) : lvl (L ++ [k]) i = lvl L i + if i < k then 1 else 0 := by
  unfold lvl
  rw [List.countP_append, List.countP_singleton]; simp
theorem outIn_done (ws L : List Nat) (k : Nat) : outIn ws L k = outAt ws (L ++ [k]) := by
  unfold outIn outAt
  exact List.map_congr_left fun s _ => (lvl_snoc L k _).symm
theorem outIn_len (ws L : List Nat) (k : Nat) : (outIn ws L k).length = ws.length := by simp [outIn]
theorem outIn_get {ws L : List Nat} {k s : Nat} (hs : s < ws.length) : (outIn ws L k)[s]? = some (lvl L ((syms ws).idxOf s) + if (syms ws).idxOf s < k then 1 else 0) := by
  unfold outIn; simp [hs]
theorem outIn_set {ws L : List Nat} {k : Nat} (hk : k < (syms ws).length) : (outIn ws L k).set ((syms ws).getD k 0) (lvl L k + 1) = outIn ws L (k + 1) := by
  refine List.ext_getElem (by simp [outIn]) fun i h1 h2 => ?_
  have hi : i < ws.length := by simpa [outIn] using h2
  rw [List.getElem_set]
  have hx := idxOf_getD hk
  by_cases h : (syms ws).getD k 0 = i
  · rw [if_pos h]
    simp only [outIn, List.getElem_map, List.getElem_range]
    rw [← h, hx, if_pos (by omega)]
  · rw [if_neg h]
    simp only [outIn, List.getElem_map, List.getElem_range]
    congr 1
    have hne : (syms ws).idxOf i ≠ k := fun he => by
      have hl : (syms ws).idxOf i < (syms ws).length := by omega
      have := List.getElem_idxOf hl
      refine h ?_
      rw [getD_eq hk, ← this]
      simp only [he]
    by_cases h3 : (syms ws).idxOf i < k
    · rw [if_pos h3, if_pos (by omega)]
    · rw [if_neg h3, if_neg (by omega)]
theorem outAt_levW (ws : List Nat) : outAt ws (levW ws) = lensW ws := rfl
theorem lensW_zero {ws : List Nat} (h : (syms ws).length = 0) : lensW ws = List.replicate ws.length 0 := by
  rw [← outAt_nil, ← outAt_levW]
  unfold levW; rw [h]; rfl
theorem lensW_single {ws : List Nat} (h : (syms ws).length = 1) : (List.replicate ws.length 0).set ((syms ws).getD 0 0) 1 = lensW ws := by
  rw [← outAt_nil, ← outIn_zero, ← outAt_levW]
  have e := outIn_set (L := []) (show 0 < (syms ws).length by omega)
  rw [show lvl [] 0 + 1 = 1 from rfl] at e
  rw [e, outIn_done]
  unfold levW; rw [h]; rfl
def errW (li : List Int) : Int := if 320 < li.length then 5 else if boundedB 1073741824 li then 0 else 1
noncomputable def lensI (li : List Int) : List Nat := if errW li = 0 then lensW (li.map Int.toNat) else []
theorem errW_zero {li : List Int} : errW li = 0 ↔ boundedB 1073741824 li := by
  unfold errW
  split
  · rename_i h; exact ⟨fun hh => by omega, fun hh => by have := hh.1; omega⟩
  · split <;> simp [*]
theorem lengths_spec {n c : Nat} {A : Option Addr} {li : List Int} {h0 : Heap} (hr : Rd h0 A (li.map iV)) (hl : li.length = n) (hn : n ≤ 17592186044416) :
    Ret Tryz.prog 78 [.slice A n c] h0 fun v h' => ∃ v1, v = retVal [v1, .int .i64 (errW li)] ∧ St h0.size h0 h' [row 3 1 v1 ((lensI li).map nV)] := by
  refine ret_of_X Tryz.func78 rfl rfl fun w0 hw0 => ?_
  simp only [argE, Nat.zero_add, Nat.reduceAdd]
  refine X_seq ?_
  refine X_reg ?_
  refine XR_a (op_assign rfl) rfl rfl ?_
  refine XR_a (op_assign rfl) rfl rfl ?_
  refine XR_nil ?_
  refine X_seq ?_
  refine X_block ?_
  refine X_seq ?_
  refine X_reg ?_
  refine XR_a (op_move rfl) rfl rfl ?_
  refine XR_a (op_len rfl rfl rfl) rfl rfl ?_
  refine XR_a (op_gtr rfl rfl) rfl rfl ?_
  refine XR_a (op_assign rfl) rfl rfl ?_
  refine XR_nil ?_
  refine X_if rfl (fun h => ?_) (fun h => ?_)
  · refine X_seq ?_
    refine X_reg ?_
    refine XR_a (op_assign rfl) rfl rfl ?_
    refine XR_a (op_assign rfl) rfl rfl ?_
    refine XR_nil ?_
    refine X_ret (.cons (.tmp rfl) (.cons (.tmp rfl) .nil)) ?_
    have he : errW li = 5 := by unfold errW; rw [if_pos (by omega)]
    refine ⟨_, by rw [he], ?_⟩
    unfold lensI
    rw [he, if_neg (by omega)]
    exact ((St.start h0).nilrow 3 1)
  · refine X_seq ?_
    refine X_reg ?_
    refine XR_a (op_move rfl) rfl rfl ?_
    refine XR_wa (opl_call (wright_spec 1073741824 hr hl hn) rfl (by kernel_rfl)) rfl rfl rfl ?_
    rintro _ hp ⟨rfl, hx⟩
    first | refine XR_a (op_notd rfl) rfl rfl ?_ | refine XR_a (op_not rfl) rfl rfl ?_
    refine XR_a (op_assign rfl) rfl rfl ?_
    refine XR_nil ?_
    refine X_if rfl (fun h => ?_) (fun h => ?_)
    · refine X_seq ?_
      refine X_reg ?_
      refine XR_a (op_assign rfl) rfl rfl ?_
      refine XR_a (op_assign rfl) rfl rfl ?_
      refine XR_nil ?_
      refine X_ret (.cons (.tmp rfl) (.cons (.tmp rfl) .nil)) ?_
      have he : errW li = 1 := by unfold errW; rw [if_neg (by omega), if_neg h]
      refine ⟨_, by rw [he], ?_⟩
      unfold lensI
      rw [he, if_neg (by omega)]
      exact (((St.start h0).ext hx).nilrow 3 1)
    · have hR : boundedB 1073741824 li := Decidable.not_not.1 h
      have he0 := errW_zero.2 hR
      have hlens : lensI li = lensW (li.map Int.toNat) := by unfold lensI; rw [if_pos he0]
      rw [hlens, he0]
      have hr2 : Rd h0 A ((li.map Int.toNat).map nV) := by rw [nV_iV, toNat_map fun x hx => (hR.2 x hx).1]; exact hr
      have hwb : ∀ s, wkey (li.map Int.toNat) s ≤ 1073741824 := fun s => by
        unfold wkey
        rcases Nat.lt_or_ge s li.length with h1 | h1
        · have := (hR.2 li[s] (List.getElem_mem h1)).2
          simp [List.getD, h1]; omega
        · simp [List.getD, h1]
      have hn320 := hR.1
      have hlw : (li.map Int.toNat).length = n := by rw [List.length_map]; exact hl
      obtain ⟨ws, hws⟩ : ∃ ws, li.map Int.toNat = ws := ⟨_, rfl⟩
      rw [hws] at hr2 hlw hwb ⊢
      have st := (St.start h0).ext hx
      have hsl := syms_len ws
      refine X_skip ?_
      refine X_blk ?_
      refine X_seq ?_
      refine X_reg ?_
      refine XR_a (op_move rfl) rfl rfl ?_
      refine XR_a (op_len rfl rfl rfl) rfl rfl ?_
      refine XR_wa (opl_mk (by omega) rfl rfl rfl) rfl rfl rfl ?_
      rintro v hp hnew
      have st := st.new hnew
      obtain ⟨Ao, no, co, rfl, _, _, _, _⟩ := st.row 0 rfl
      refine XR_wa (opl_new rfl) rfl rfl rfl ?_
      rintro _ hp ⟨p4, rfl, hnew⟩
      replace st := st.new hnew
      refine XR_wn (opl_store_pt st 0 rfl rfl rfl rfl rfl (rfl)) rfl rfl fun _ hp st => ?_
      simp only [List.set_cons_zero, List.set_cons_succ] at st
      refine XR_nil ?_
      refine X_seq ?_
      refine X_reg ?_
      refine XR_a (op_move rfl) rfl rfl ?_
      refine XR_wa (opl_call (items_spec (hr2.ext st.low) hlw (by omega)) rfl (by kernel_rfl)) rfl rfl rfl ?_
      rintro v2 hp2 st2
      obtain ⟨As, ns, cs, rfl, hls, _, _, _⟩ := st2.row 0 rfl
      replace st := st.join st2
      simp only [List.cons_append, List.nil_append] at st
      rw [List.length_map, Nat.mul_one] at hls
      have hrow := (st.rdS 2 rfl).1
      rw [List.length_replicate] at hrow
      have hno : no = n := by omega
      rw [hno] at st
      rw [show List.replicate n (Value.int .i64 0) = (outAt ws []).map nV by rw [outAt_nil, List.map_replicate, hlw]; rfl] at st
      refine XR_wa (opl_new rfl) rfl rfl rfl ?_
      rintro _ hp ⟨p5, rfl, hnew⟩
      replace st := st.new hnew
      refine XR_wn (opl_store_pt st 0 rfl rfl rfl rfl rfl (rfl)) rfl rfl fun _ hp st => ?_
      simp only [List.set_cons_zero, List.set_cons_succ] at st
      refine XR_nil ?_
      refine X_seq ?_
      refine X_seq ?_
      refine X_reg ?_
      refine XR_a (op_ld (st.cell 0 (i := 0) rfl rfl) rfl rfl rfl) rfl rfl ?_
      refine XR_a (op_len rfl rfl rfl) rfl rfl ?_
      refine XR_a (op_eql rfl rfl) rfl rfl ?_
      refine XR_nil ?_
      refine X_if rfl (fun h => ?_) (fun h => ?_)
      · have h3 : (syms ws).length = 1 := by omega
        obtain ⟨g5, o5, rfl, hc5⟩ := (st.rdS 1 rfl).2.at_ (by rw [List.length_map]; omega)
        have hs0 := hc5 0 (nV ((syms ws).getD 0 0)) (by rw [List.getElem?_map, List.getElem?_eq_getElem (by omega), getD_eq (by omega)]; rfl)
        have hsn := (mem_syms.1 (getD_mem (l := syms ws) (i := 0) (by omega))).1
        obtain ⟨go, no', co', heo, _⟩ := st.row0 3 rfl (by rw [List.length_map, outAt_len]; omega)
        cases heo
        refine X_draw byKind (by kernel_rfl) (by kernel_rfl) ?_
        refine XR_a (op_ld (st.cell 2 (i := 0) rfl rfl) rfl rfl rfl) rfl rfl ?_
        refine XR_a (op_ld (st.cell 0 (i := 0) rfl rfl) rfl rfl rfl) rfl rfl ?_
        refine XR_a (op_index1 (i := 0) rfl rfl rfl (by omega)) rfl rfl ?_
        refine XR_a (op_ld (hs0) rfl rfl rfl) rfl rfl ?_
        first | refine XR_a (op_index1 rfl rfl rfl (by omega)) rfl rfl ?_ | refine XR_a (op_index rfl rfl rfl (by omega)) rfl rfl ?_
        refine XR_wn (opl_store_row (v := nV 1) st 3 rfl rfl rfl (by rw [List.length_map, outAt_len]; omega) rfl rfl) rfl rfl fun _ hp st => ?_
        simp only [List.set_cons_zero, List.set_cons_succ] at st
        rw [map_set_nV, outAt_nil, lensW_single h3] at st
        refine XR_nil ?_
        refine X_seq ?_
        refine X_seq ?_
        refine X_reg ?_
        refine XR_a (op_ld (st.cell 0 (i := 0) rfl rfl) rfl rfl rfl) rfl rfl ?_
        refine XR_a (op_len rfl rfl rfl) rfl rfl ?_
        refine XR_a (op_lss rfl rfl) rfl rfl ?_
        refine XR_nil ?_
        refine X_if rfl (fun h => ?_) (fun h => ?_)
        · refine X_seq ?_
          refine X_reg ?_
          refine XR_a (op_ld (st.cell 2 (i := 0) rfl rfl) rfl rfl rfl) rfl rfl ?_
          refine XR_a (op_assign rfl) rfl rfl ?_
          refine XR_a (op_assign rfl) rfl rfl ?_
          refine XR_nil ?_
          refine X_ret (.cons (.tmp rfl) (.cons (.tmp rfl) .nil)) ?_
          exact ⟨_, rfl, (st.re 4 [3, 0, 1, 2] (by decide)).keep 1⟩
        · exact absurd h (by omega)
      · refine X_skip ?_
        refine X_seq ?_
        refine X_seq ?_
        refine X_reg ?_
        refine XR_a (op_ld (st.cell 0 (i := 0) rfl rfl) rfl rfl rfl) rfl rfl ?_
        refine XR_a (op_len rfl rfl rfl) rfl rfl ?_
        refine XR_a (op_lss rfl rfl) rfl rfl ?_
        refine XR_nil ?_
        refine X_if rfl (fun h => ?_) (fun h => ?_)
        · refine X_seq ?_
          refine X_reg ?_
          refine XR_a (op_ld (st.cell 2 (i := 0) rfl rfl) rfl rfl rfl) rfl rfl ?_
          refine XR_a (op_assign rfl) rfl rfl ?_
          refine XR_a (op_assign rfl) rfl rfl ?_
          refine XR_nil ?_
          refine X_ret (.cons (.tmp rfl) (.cons (.tmp rfl) .nil)) ?_
          rename_i h3 h4
          refine ⟨_, rfl, ?_⟩
          rw [lensW_zero (by omega), ← outAt_nil]
          exact (st.re 4 [3, 0, 1, 2] (by decide)).keep 1
        · refine X_skip ?_
          refine X_seq ?_
          have h2n : 2 ≤ (syms ws).length := by omega
          obtain ⟨go, no', co', heo, _⟩ := st.row0 3 rfl (by rw [List.length_map, outAt_len]; omega)
          cases heo
          refine X_reg ?_
          refine XR_a (op_move rfl) rfl rfl ?_
          refine XR_a (op_ld (st.cell 0 (i := 0) rfl rfl) rfl rfl rfl) rfl rfl ?_
          refine XR_wa (opl_call (rows_spec) rfl (by kernel_rfl)) rfl rfl rfl ?_
          rintro _ hp3 ⟨pa, pq, rfl, st3⟩
          replace st := st.join st3
          simp only [List.cons_append, List.nil_append] at st
          have stc := st.re 6 [0, 1, 3, 2, 4, 5] (by decide)
          simp only [List.map_cons, List.map_nil, getR] at stc
          have hbase := stc.low
          refine XR_wa (opl_call (collect_rows (α := List Value × List (Value × List Value)) (Q := fun x => x.1.length = 15 ∧ ∀ j, j < 15 → (x.1.getD j (.slice none 0 0), (rowE (sws ws) (j + 1)).flatMap eC) ∈ x.2) (out := fun x => x.1) (F2 := fun x => rowsR 206 2 x.2 :: Bn.row 3 1 (.slice As ns cs) ((syms ws).map nV) :: _) (lb := [.pointer (some ⟨pa, 0, none⟩), .pointer (some ⟨pq, 0, none⟩)]) stc.here (by kernel_rfl) (fun JR G y h hlow s hround => by refine Ret.mono (rows_iter (ws := ws) (F := [_, _, _] ++ G) JR (s.perm (((List.perm_append_comm_assoc [_, _, _] (JR []) G).cons _).cons _ |>.cons _)) (fun h' hl' => hr2.ext ((hbase.trans hlow).trans hl')) hlw (fun s hs => by have := (mem_syms.1 hs).1; omega) (by omega) (fun s _ => hwb s) hround) ?_; rintro _ h' ⟨vs, L, e1, e2, s2⟩; exact ⟨(vs, L), ⟨e1, e2⟩, s2⟩)) rfl (by kernel_rfl)) rfl rfl rfl ?_
          rintro v6 hp6 ⟨⟨vs, L⟩, ⟨hvs, hvL⟩, st6⟩
          obtain ⟨A6, n6, c6, rfl, hl6, _, _, _⟩ := st6.row 0 rfl
          simp only at st6 hl6 hvs hvL
          obtain rfl : n6 = 15 := by omega
          replace st := stc.trans st6
          refine XR_a (op_assign rfl) rfl rfl ?_
          refine XR_nil ?_
          refine X_seq ?_
          refine X_reg ?_
          refine XR_a (op_ld (st.cell 3 (i := 0) rfl rfl) rfl rfl rfl) rfl rfl ?_
          refine XR_a (op_len rfl rfl rfl) rfl rfl ?_
          first | refine XR_a (op_mulN (m := 2) rfl rfl (by simp only [inK]; omega)) rfl rfl ?_ | refine XR_a (op_mulI rfl rfl (by simp only [inK]; omega)) rfl rfl ?_ | refine XR_a (op_mul rfl rfl) rfl rfl ?_
          refine XR_a (op_subN (m := 2 * ns) (n := 2) rfl rfl (by omega) (by simp only [inK]; omega)) rfl rfl ?_
          refine XR_wa (opl_new rfl) rfl rfl rfl ?_
          rintro _ hp ⟨p7, rfl, hnew⟩
          replace st := st.new hnew
          refine XR_wn (opl_store_pt st 0 rfl rfl rfl rfl rfl (rfl)) rfl rfl fun _ hp st => ?_
          simp only [List.set_cons_zero, List.set_cons_succ] at st
          refine XR_nil ?_
          refine X_seq ?_
          refine X_seq ?_
          refine X_reg ?_
          refine XR_a (op_move rfl) rfl rfl ?_
          refine XR_wa (opl_call (backward_spec) rfl (by kernel_rfl)) rfl rfl rfl ?_
          rintro _ hp8 ⟨pb, rfl, st8⟩
          replace st := st.join st8
          simp only [List.cons_append, List.nil_append] at st
          refine XR_nil ?_
          refine X_block ?_
          refine X_rangeS st rfl rfl (by kernel_rfl) fun fn tmps LL y d hp1 hL hok hx1 st1 => ?_
          obtain ⟨JR, hJR⟩ : ∃ JR : Nat → List Res, JR = fun j => [exR fun x : List Nat × Nat => andR (x.1 ++ lev (sws ws) (15 - j) x.2 = levW ws ∧ x.2 ≤ (rowE (sws ws) (15 - j)).length) (starR (pt p7 3 [nV x.2]) (Bn.row 3 1 (.slice (some ⟨go, 0, none⟩) n co) ((outAt ws x.1).map nV))),
            obj y (LL .ready none), rowsR 206 2 L, Bn.row 3 1 (.slice As ns cs) ((syms ws).map nV), pt p5 73 [.slice As ns cs], pt p4 73 [.slice (some ⟨go, 0, none⟩) n co]] := ⟨_, rfl⟩
          have st9 := st1.re 10 [3, 9, 2, 4, 0, 5, 6, 7, 8, 1] (by decide)
          simp only [List.map_cons, List.map_nil, getR] at st9
          have hT : ([] : List Nat) ++ lev (sws ws) (15 - 0) (2 * ns - 2) = levW ws ∧ 2 * ns - 2 ≤ (rowE (sws ws) (15 - 0)).length := by
            rw [← hls]
            exact ⟨(levW_two h2n).symm, rowW_len h2n (by omega)⟩
          have st10 := (St.ex.2 ⟨([], 2 * ns - 2), St.and.2 ⟨hT, St.star.2 st9⟩⟩ : St h0.size h0 hp1 ((exR fun x : List Nat × Nat => andR (x.1 ++ lev (sws ws) (15 - 0) x.2 = levW ws ∧ x.2 ≤ (rowE (sws ws) (15 - 0)).length) (starR (pt p7 3 [nV x.2]) (Bn.row 3 1 (.slice (some ⟨go, 0, none⟩) n co) ((outAt ws x.1).map nV)))) :: _)).re 9 [1, 2, 0, 3, 4, 5, 6, 7, 8] (by decide)
          simp only [List.map_cons, List.map_nil, getR] at st10
          have st11 : St h0.size h0 hp1 (pt pb 196 [.slice A6 15 c6] :: Bn.row 198 1 (.slice A6 15 c6) vs :: (JR 0 ++ [obj d (.deferred (some []))])) := by rw [hJR]; exact st10
          refine Ret.mono (backward_iter JR (by omega) st11.here ?_) ?_
          · intro j F' h hlow hj st2
            subst hL
            subst hJR
            simp only [List.cons_append, List.nil_append] at st2
            obtain ⟨⟨dn, t⟩, st2⟩ := St.ex.1 st2
            obtain ⟨⟨hlev, ht⟩, st2⟩ := St.and.1 st2
            replace st2 := St.star.1 st2
            simp only at hlev ht st2
            obtain ⟨r, hr15⟩ : ∃ r, 15 - j = r + 1 := ⟨14 - j, by omega⟩
            rw [hr15] at hlev ht
            have hrj : 15 - 1 - j = r := by omega
            rw [hrj]
            have hmem := hvL r (by omega)
            obtain ⟨A9, n9, c9, hv9, hl9, hn9, _, hrd9⟩ := st2.rowsAt 3 rfl hmem
            rw [flat_length _ 2 (fun _ => rfl)] at hl9
            simp only at hv9
            rw [hv9]
            obtain ⟨k1, k2, k3, k4, _⟩ := row_take (sws_asc ws) r t ht
            rw [sws_length] at k2
            have hrb := rowE_bd (sws ws) (r + 1)
            rw [sws_length] at hrb
            refine rret_of_X (st2.obj_at 2 rfl) hok rfl rfl fun w0 hw0 => ?_
            simp only [penv]
            refine X_reg ?_
            refine XR_a (op_assign rfl) rfl rfl ?_
            refine XR_nil ?_
            refine X_begin (st2.obj_at 2 rfl) ?_
            have st := st2.loop 2 .busy none rfl
            simp only [List.set_cons_zero, List.set_cons_succ] at st
            refine X_block ?_
            refine X_seq ?_
            refine X_reg ?_
            refine XR_a (op_assign rfl) rfl rfl ?_
            refine XR_nil ?_
            refine X_seq ?_
            refine X_seq ?_
            refine X_reg ?_
            refine XR_a (op_move rfl) rfl rfl ?_
            refine XR_a (op_ld (st.cell 0 (i := 0) rfl rfl) rfl rfl rfl) rfl rfl ?_
            refine XR_a (op_slice_h rfl rfl rfl (by omega)) rfl rfl ?_
            rw [cutA_zero]
            refine XR_a (op_len rfl rfl rfl) rfl rfl ?_
            refine XR_a (op_move rfl) rfl rfl ?_
            refine XR_nil ?_
            refine X_block ?_
            rw [← outIn_zero] at st
            refine X_loop (fun s => t - s.1) (fun s => [(4, .pointer (some ⟨p4, 0, none⟩)), (5, .pointer (some ⟨p5, 0, none⟩)), (7, .pointer (some ⟨p7, 0, none⟩)), (10, nV s.2), (52, .slice A9 t c9), (53, nV t), (54, nV s.1)])
              (fun (s : Nat × Nat) hp => s.1 ≤ t ∧ s.2 = ((rowE (sws ws) (r + 1)).take s.1).countP isItem ∧ Low h0.size h hp ∧ St h0.size h hp (pt p7 3 [nV t] :: Bn.row 3 1 (.slice (some ⟨go, 0, none⟩) n co) ((outIn ws dn s.2).map nV) :: obj y (loopR fn tmps #[48, 49] _ _ d .busy none) :: rowsR 206 2 L :: Bn.row 3 1 (.slice As ns cs) ((syms ws).map nV) :: pt p5 73 [.slice As ns cs] :: pt p4 73 [.slice (some ⟨go, 0, none⟩) n co] :: F'))
              (0, 0) (.cons rfl (.cons rfl (.cons rfl (.cons rfl (.cons rfl (.cons rfl (.cons rfl (.nil _)))))))) ⟨Nat.zero_le _, by simp, st.low, st⟩ ?_
            clear st
            rintro ⟨i, k⟩ hp9 ⟨hi, hk, hlow9, st⟩
            simp only at hi hk st ⊢
            refine X_seq ?_
            refine X_reg ?_
            refine XR_a (op_lss rfl rfl) rfl rfl ?_
            refine XR_nil ?_
            refine X_seq ?_
            refine X_if rfl (fun h => ?_) (fun h => ?_)
            · have hit : i < (rowE (sws ws) (r + 1)).length := by omega
              have hrd9 := (st.rowsAt 3 rfl hmem)
              simp only [hv9] at hrd9
              obtain ⟨A9', n9', c9', he9, _, _, _, hrd9⟩ := hrd9
              cases he9
              obtain ⟨g9, o9, rfl, hc9⟩ := Rd.flat eC 2 hrd9 (fun _ => rfl) (by omega) (by omega)
              have hcell := hc9 i hit
              have htk := List.take_succ_eq_append_getElem hit
              obtain ⟨e, hee⟩ : ∃ e, (rowE (sws ws) (r + 1))[i] = e := ⟨_, rfl⟩
              rw [hee] at hcell htk
              have hk' : ((rowE (sws ws) (r + 1)).take (i + 1)).countP isItem = k + if isItem e = true then 1 else 0 := by
                rw [htk, List.countP_append, List.countP_singleton, hk]
              obtain ⟨q1, q2, _⟩ := row_take (sws_asc ws) r (i + 1) (by omega)
              unfold numI at q1 q2
              rw [sws_length] at q2
              refine X_skip ?_
              refine X_seq ?_
              refine X_block ?_
              refine X_seq ?_
              refine X_reg ?_
              refine XR_a (op_index (i := i) rfl rfl rfl (by omega)) rfl rfl ?_
              refine XR_a (op_ldA (vs := eC e) (fun j u hu => hcell j u hu) rfl rfl rfl rfl) rfl rfl ?_
              refine XR_wa (opl_new rfl) rfl rfl rfl ?_
              rintro _ hp ⟨p12, rfl, hnew⟩
              replace st := st.new hnew
              refine XR_wn (opl_store_whole (us := eC e) st 0 rfl rfl rfl rfl rfl (one_eC e) rfl) rfl rfl fun _ hp st => ?_
              simp only [List.set_cons_zero] at st
              refine XR_nil ?_
              refine X_seq ?_
              refine X_reg ?_
              first | refine XR_a (op_field0 rfl rfl) rfl rfl ?_ | refine XR_a (op_fieldn rfl rfl) rfl rfl ?_
              refine XR_a (op_ld (st.cell 0 (i := 1) rfl rfl) rfl rfl rfl) rfl rfl ?_
              refine XR_nil ?_
              refine X_cond rfl (fun h => ?_) (fun h => ?_)
              · rw [if_pos h] at hk'
                have hks : k < (syms ws).length := by omega
                obtain ⟨g5, o5, rfl, hc5⟩ := (st.rdS 5 rfl).2.at_ (by rw [List.length_map]; omega)
                have hsk := hc5 k (nV ((syms ws).getD k 0)) (by rw [List.getElem?_map, List.getElem?_eq_getElem hks, getD_eq hks]; rfl)
                have hsn := (mem_syms.1 (getD_mem (l := syms ws) hks)).1
                have hog := outIn_get (L := dn) (k := k) hsn
                rw [idxOf_getD hks, if_neg (by omega), Nat.add_zero] at hog
                obtain ⟨g6, o6, he6, hc6⟩ := (st.rdS 2 rfl).2.at_ (by rw [List.length_map, outIn_len]; omega)
                cases he6
                have hov := hc6 _ _ (map_get_nV hog)
                have hset := outIn_set (L := dn) hks
                have hlv := lvl_le dn k
                have hdl : dn.length ≤ 15 := by
                  have := congrArg List.length hlev
                  rw [List.length_append, lev_length] at this
                  have := levW_length (ws := ws)
                  omega
                refine X_seq ?_
                refine X_draw byKind (by kernel_rfl) (by kernel_rfl) ?_
                refine XR_a (op_ld (st.cell 7 (i := 0) rfl rfl) rfl rfl rfl) rfl rfl ?_
                refine XR_a (op_ld (st.cell 6 (i := 0) rfl rfl) rfl rfl rfl) rfl rfl ?_
                refine XR_a (op_move rfl) rfl rfl ?_
                first | refine XR_a (op_index1 rfl rfl rfl (by omega)) rfl rfl ?_ | refine XR_a (op_index rfl rfl rfl (by omega)) rfl rfl ?_
                refine XR_a (op_ld (hsk) rfl rfl rfl) rfl rfl ?_
                first | refine XR_a (op_index1 rfl rfl rfl (by omega)) rfl rfl ?_ | refine XR_a (op_index rfl rfl rfl (by omega)) rfl rfl ?_
                refine XR_a (op_ld (hov) rfl rfl rfl) rfl rfl ?_
                first | refine XR_a (op_addN (n := 1) rfl rfl (by simp only [inK]; omega)) rfl rfl ?_ | refine XR_a (op_addI rfl rfl (by simp only [inK]; omega)) rfl rfl ?_ | refine XR_a (op_add rfl rfl) rfl rfl ?_
                first | refine XR_a (op_index1 rfl rfl rfl (by omega)) rfl rfl ?_ | refine XR_a (op_index rfl rfl rfl (by omega)) rfl rfl ?_
                refine XR_wn (opl_store_row (v := nV (lvl dn k + 1)) st 2 rfl rfl rfl (by rw [List.length_map, outIn_len]; omega) rfl rfl) rfl rfl fun _ hp st => ?_
                simp only [List.set_cons_zero, List.set_cons_succ] at st
                rw [map_set_nV, hset] at st
                refine XR_nil ?_
                refine X_reg ?_
                refine XR_a (op_move rfl) rfl rfl ?_
                first | refine XR_a (op_addN (n := 1) rfl rfl (by simp only [inK]; omega)) rfl rfl ?_ | refine XR_a (op_addI rfl rfl (by simp only [inK]; omega)) rfl rfl ?_ | refine XR_a (op_add rfl rfl) rfl rfl ?_
                refine XR_a (op_assign rfl) rfl rfl ?_
                refine XR_nil ?_
                refine X_blk ?_
                refine X_reg ?_
                first | refine XR_a (op_addN (n := 1) rfl rfl (by simp only [inK]; omega)) rfl rfl ?_ | refine XR_a (op_addI rfl rfl (by simp only [inK]; omega)) rfl rfl ?_ | refine XR_a (op_add rfl rfl) rfl rfl ?_
                refine XR_a (op_move rfl) rfl rfl ?_
                refine XR_nil ?_
                exact X_again (i + 1, k + 1) (.cons rfl (.cons rfl (.cons rfl (.cons rfl (.cons rfl (.cons rfl (.cons rfl (.nil _)))))))) ⟨by simp only; omega, hk'.symm, st.low, st.tail⟩ (by simp only; omega)
              · refine X_skip ?_
                refine X_blk ?_
                refine X_reg ?_
                first | refine XR_a (op_addN (n := 1) rfl rfl (by simp only [inK]; omega)) rfl rfl ?_ | refine XR_a (op_addI rfl rfl (by simp only [inK]; omega)) rfl rfl ?_ | refine XR_a (op_add rfl rfl) rfl rfl ?_
                refine XR_a (op_move rfl) rfl rfl ?_
                refine XR_nil ?_
                have hff : ¬ isItem e = true := by simpa using h
                rw [if_neg hff, Nat.add_zero] at hk'
                exact X_again (i + 1, k) (.cons rfl (.cons rfl (.cons rfl (.cons rfl (.cons rfl (.cons rfl (.cons rfl (.nil _)))))))) ⟨by simp only; omega, hk'.symm, st.low, st.tail⟩ (by simp only; omega)
            · refine X_exit rfl ?_
              obtain rfl : i = t := by omega
              have hkn : k = numI (sws ws) (r + 1) i := hk
              refine X_reg ?_
              refine XR_a (op_ld (st.cell 0 (i := 0) rfl rfl) rfl rfl rfl) rfl rfl ?_
              refine XR_a (op_move rfl) rfl rfl ?_
              first | refine XR_a (op_subN rfl rfl (by omega) (by simp only [inK]; omega)) rfl rfl ?_ | refine XR_a (op_subI rfl rfl (by simp only [inK]; omega)) rfl rfl ?_ | refine XR_a (op_sub rfl rfl) rfl rfl ?_
              first | refine XR_a (op_mulN (m := 2) rfl rfl (by simp only [inK]; omega)) rfl rfl ?_ | refine XR_a (op_mulI rfl rfl (by simp only [inK]; omega)) rfl rfl ?_ | refine XR_a (op_mul rfl rfl) rfl rfl ?_
              refine XR_wn (opl_store_pt st 0 rfl rfl rfl rfl rfl (rfl)) rfl rfl fun _ hp st => ?_
              simp only [List.set_cons_zero, List.set_cons_succ] at st
              refine XR_nil ?_
              refine X_blk ?_
              refine X_rnd (st.obj_at 2 rfl) ⟨rfl, ?_⟩
              replace st := st.loop 2 .ready none rfl
              simp only [List.set_cons_zero, List.set_cons_succ] at st
              rw [outIn_done] at st
              have hj1 : 15 - (j + 1) = r := by omega
              simp only [List.cons_append, List.nil_append, hj1]
              refine St.ex.2 ⟨(dn ++ [k], 2 * (i - k)), St.and.2 ⟨⟨?_, ?_⟩, St.star.2 st⟩⟩
              · rw [← hlev, lev, ← hkn]; simp
              · rw [← hkn] at k3; exact k3
          rintro _ h' st2
          subst hJR
          simp only [List.cons_append, List.nil_append] at st2
          refine .inl ⟨_, (st11.trans st2).perm (List.Perm.swap _ _ _), fun hp3 st3 => ?_⟩
          obtain ⟨⟨dn, t⟩, st3⟩ := St.ex.1 (st3.perm (List.Perm.swap _ _ _))
          obtain ⟨⟨hlev, _⟩, st3⟩ := St.and.1 st3
          have st := St.star.1 st3
          simp only at hlev st
          rw [show 15 - 15 = 0 from rfl, lev, List.append_nil] at hlev
          rw [hlev, outAt_levW] at st
          refine X_blk ?_
          refine X_seq ?_
          refine X_reg ?_
          refine XR_a (op_ld (st.cell 6 (i := 0) rfl rfl) rfl rfl rfl) rfl rfl ?_
          refine XR_a (op_assign rfl) rfl rfl ?_
          refine XR_a (op_assign rfl) rfl rfl ?_
          refine XR_nil ?_
          refine X_retM (d := d) (.cons (.tmp rfl) (.cons (.tmp rfl) .nil)) ?_ (st.obj_at 7 rfl)
          replace st := st.put 7 (.deferred none) rfl
          exact ⟨_, rfl, (st.re 8 [1, 0, 2, 3, 4, 5, 6, 7] (by decide)).keep 1⟩
end Go.Bn
end

section
set_option linter.unusedVariables false
set_option linter.unusedSimpArgs false
namespace Go.Bn
open Go
section
variable {P : Program} {E : Env} {hp : Heap} {cl : Cls} {d : Option Tmp} {ty : TypeId} {pos : String} {af : Array Edge} {g : Option (Nat × Bool)}
variable {x y z : Operand} {t t' : TypeId}
theorem opl_append_lit {e sz b m c : Nat} {zs : List Value} {news : List Value} {A : Option Addr} {B gb : Nat} {h0 : Heap} {rs : List Res} (st : St B h0 hp rs) (j : Nat) (hj : rs[j]? = some (row e sz (.slice (some ⟨gb, 0, none⟩) 0 0) [])) (hn : Rd hp A news) (hl : news.length = m * sz)
    (h1 : ∀ u ∈ news, Value.one u = true) (hb : news.length * b ≤ 140737488355328) (hx : ev E x = some (.slice (some ⟨gb, 0, none⟩) 0 0)) (hy : ev E y = some (.slice A m c)) (ht : sliceI P t = some (e, sz, b, zs)) (hzs : Nat.beq zs.length sz = true) (hsz : Nat.blt 0 sz = true) (hb0 : Nat.blt 0 b = true)
    {ts : Array TypeId} (hts : ts = #[t, t]) :
    OpL P ⟨d, .call ⟨.builtin .append, #[x, y], ts⟩, ty, pos, af, g⟩ E hp (fun v' hp' => Ext hp hp' ∧ St B h0 hp' (rs.set j (row e sz v' news))) := by
  intro n a w ho hw K hK
  subst hw hts
  obtain ⟨S, hS, _⟩ := st.at_ hj
  have hsz' : 0 < sz := by simpa [Nat.blt_eq] using hsz
  have hb0' : 0 < b := by simpa [Nat.blt_eq] using hb0
  obtain ⟨v', w', hrun, hinv, hupd⟩ := run_append (ty := ty) (c := c) ht (Nat.eq_of_beq_eq_true hzs) hsz' hS hn hl h1 hb0' (by simpa using hb)
  have hrun' : (execOp a.eval ⟨d, .call ⟨.builtin .append, #[x, y], #[t, t]⟩, ty, pos, af, g⟩).run P w = .ok (.value v') w' := by
    simp [execOp, resolve, ho.eval hx, ho.eval hy, invoke, builtin, hrun]
  simp only [Oper.wp, hrun', Oper.upon]
  refine hK v' w' hinv ⟨?_, by have := st.upd hj hupd; simpa using this⟩
  obtain ⟨i, z', hu, hi, hz, hsi, hbi, hzc⟩ := sliceI_spec ht
  subst hsi
  by_cases hm : m = 0
  · subst hm
    have hne : news = [] := List.eq_nil_of_length_eq_zero (by simpa using hl)
    subst hne
    have h2 : (Builtin.append_ #[t, t] ty #[.slice (some ⟨gb, 0, none⟩) 0 0, .slice A 0 c]).run P w = .ok (.slice (some ⟨gb, 0, none⟩) 0 0) w := by
      cases A <;> simp [Builtin.append_, run_underlying hu, sizeOf, typeInfo, hi, Builtin.lenOf, Builtin.firstCells, storeCells, loadCells, loadCellsFrom]
    have h3 := hrun.symm.trans h2
    cases h3
    exact Ext.refl _
  · cases A with
    | none =>
      exfalso
      rcases hn with h | ⟨_, _, h, _⟩
      · subst h
        have := Nat.mul_pos (Nat.pos_of_ne_zero hm) hsz'
        simp at hl; omega
      · cases h
    | some aa =>
      have hcell := rd_cell hn rfl
      have q2 : m * i.bytes ≤ 140737488355328 := by
        have h3 : m ≤ news.length := by rw [hl]; exact Nat.le_mul_of_pos_right _ hsz'
        rw [hbi]
        exact Nat.le_trans (Nat.mul_le_mul_right _ h3) hb
      have q1 : m ≤ 140737488355328 := Nat.le_trans (Nat.le_mul_of_pos_right _ (by rw [hbi]; exact hb0')) q2
      have h2 := run_append_grow (P := P) w t ty e i z' hu hi hz ⟨gb, 0, none⟩ 0 0 [] (by simp) (fun j u hu => by simp at hu) aa m c news hl hcell (by omega) (by omega) (growslice_fits (by omega) (by simpa using q2))
      have h3 := hrun.symm.trans h2
      cases h3
      exact ext_push _ _
theorem opl_lit0p {e sz b : Nat} {zs : List Value} (ht : sliceI P t = some (e, sz, b, zs)) : OpL P ⟨d, .buildSlice t 0 #[], ty, pos, af, g⟩ E hp (fun u hp' => ∃ gb, u = .slice (some ⟨gb, 0, none⟩) 0 0 ∧ New (row e sz (.slice (some ⟨gb, 0, none⟩) 0 0) []) hp hp') := by
  intro n a w ho hw K hK
  subst hw
  obtain ⟨i, z, hu, hi, hz, hsz, _, hzc⟩ := sliceI_spec ht
  have hrun : (execOp a.eval ⟨d, .buildSlice t 0 #[], ty, pos, af, g⟩).run P w = .ok (.value (.slice (some ⟨w.heap.size, 0, none⟩) 0 0)) (w.alloc (.cells #[] e)) := by
    simp only [execOp, Instr.buildSlice, Sem.run_bind, run_underlying hu, Result.andThen_ok, sizeOf, typeInfo, program, Sem.run, hi, Sem.run_pure, Nat.zero_mul, if_true, List.map_toArray]
    simp [Instr.fill, run_newRow]
    exact congrArg (fun x => w.alloc (.cells x e)) (Array.ext (by simp) (fun i h1 _ => absurd h1 (by simp)))
  simp only [Oper.wp, hrun, Oper.upon]
  refine hK _ _ ⟨rfl, rfl, rfl⟩ ⟨w.heap.size, rfl, ?_⟩
  have := new_row w.heap e sz 0 [] (by simp) (by simp [maxLen])
  exact this
end
end Go.Bn
end
