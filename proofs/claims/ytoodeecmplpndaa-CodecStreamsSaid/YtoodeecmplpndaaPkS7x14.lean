/- Packed texts of a claim: what its theorem uses, joined. -/
import Derived.Test.YtoodeecmplpndaaPkS7x13
section
set_option linter.unusedVariables false
set_option linter.unusedSimpArgs false
set_option maxHeartbeats 4000000
set_option maxRecDepth 20000
namespace Go.Bn
open Go Proofs
noncomputable def outAt (ws L : List Nat) : List Nat := (List.range ws.length).map fun s => lvl L ((syms ws).idxOf s)
noncomputable def outIn (ws L : List Nat) (k : Nat) : List Nat := (List.range ws.length).map fun s => lvl L ((syms ws).idxOf s) + if (syms ws).idxOf s < k then 1 else 0
theorem outAt_nil (ws : List Nat) : outAt ws [] = List.replicate ws.length 0 := by
 refine List.ext_getElem (by simp [outAt]) fun i h1 h2 => ?_
 simp [outAt, lvl]
theorem outAt_len (ws L : List Nat) : (outAt ws L).length = ws.length := by simp [outAt]
theorem outIn_zero (ws L : List Nat) : outIn ws L 0 = outAt ws L := by
 unfold outIn outAt
 refine List.map_congr_left fun s _ => ?_
 rw [if_neg (by omega), Nat.add_zero]
theorem lvl_snoc (L : List Nat) (k i : Nat) : lvl (L ++ [k]) i = lvl L i + if i < k then 1 else 0 := by
 unfold lvl
 rw [List.countP_append, List.countP_singleton]; simp
theorem outIn_done (ws L : List Nat) (k : Nat) : outIn ws L k = outAt ws (L ++ [k]) := by
 unfold outIn outAt
 exact List.map_congr_left fun s _ => (lvl_snoc L k _).symm
theorem outIn_len (ws L : List Nat) (k : Nat) : (outIn ws L k).length = ws.length := by simp [outIn]
theorem outIn_get {ws L : List Nat} {k s : Nat} (hs : s < ws.length) : (outIn ws L k)[s]? = some (lvl L ((syms ws).idxOf s) + if (syms ws).idxOf s < k then 1 else 0) := by
 unfold outIn; simp [hs]
theorem outIn_set {ws L : List Nat} {k : Nat} (hk : k < (syms ws).length) : (outIn ws L k).set ((syms ws).getD k 0) (lvl L k + 1) = outIn ws L (k + 1) := by
 refine List.ext_getElem (by simp [outIn]) fun i h1 h2 => ?_
 have hi : i < ws.length := by simpa [outIn] using h2
 rw [List.getElem_set]
 have hx := idxOf_getD hk
 by_cases h : (syms ws).getD k 0 = i
 ·rw [if_pos h]
  simp only [outIn, List.getElem_map, List.getElem_range]
  rw [← h, hx, if_pos (by omega)]
 ·rw [if_neg h]
  simp only [outIn, List.getElem_map, List.getElem_range]
  congr 1
  have hne : (syms ws).idxOf i ≠ k := fun he => by
   have hl : (syms ws).idxOf i < (syms ws).length := by omega
   have := List.getElem_idxOf hl
   refine h ?_
   rw [getD_eq hk, ← this]
   simp only [he]
  by_cases h3 : (syms ws).idxOf i < k
  ·rw [if_pos h3, if_pos (by omega)]
  ·rw [if_neg h3, if_neg (by omega)]
theorem outAt_levW (ws : List Nat) : outAt ws (levW ws) = lensW ws := rfl
theorem lensW_zero {ws : List Nat} (h : (syms ws).length = 0) : lensW ws = List.replicate ws.length 0 := by
 rw [← outAt_nil, ← outAt_levW]
 unfold levW; rw [h]; rfl
theorem lensW_single {ws : List Nat} (h : (syms ws).length = 1) : (List.replicate ws.length 0).set ((syms ws).getD 0 0) 1 = lensW ws := by
 rw [← outAt_nil, ← outIn_zero, ← outAt_levW]
 have e := outIn_set (L := []) (show 0 < (syms ws).length by omega)
 rw [show lvl [] 0 + 1 = 1 from rfl] at e
 rw [e, outIn_done]
 unfold levW; rw [h]; rfl
def errW (li : List Int) : Int := if 320 < li.length then 5 else if boundedB 1073741824 li then 0 else 1
noncomputable def lensI (li : List Int) : List Nat := if errW li = 0 then lensW (li.map Int.toNat) else []
theorem errW_zero {li : List Int} : errW li = 0 ↔ boundedB 1073741824 li := by
 unfold errW
 split
 ·rename_i h; exact ⟨fun hh => by omega, fun hh => by have := hh.1; omega⟩
 ·split <;> simp [*]
theorem lengths_spec {n c : Nat} {A : Option Addr} {li : List Int} {h0 : Heap} (hr : Rd h0 A (li.map iV)) (hl : li.length = n) (hn : n ≤ 17592186044416) :
  Ret Try.prog 62 [.slice A n c] h0 fun v h' => ∃ v1, v = retVal [v1, .int .i64 (errW li)] ∧ St h0.size h0 h' [row 3 1 v1 ((lensI li).map nV)] := by
 refine ret_of_X Try.func62 rfl rfl fun w0 hw0 => ?_
 simp only [argE, Nat.zero_add, Nat.reduceAdd]
 refine X_seq (X_reg (XA rfl rfl rfl (XA rfl rfl rfl (XR_nil (X_seq (X_block (X_seq (X_reg (XV rfl rfl rfl ?_)))))))))
 refine XR_a (op_len rfl rfl rfl) rfl rfl ?_
 refine XR_a (op_gtr rfl rfl) rfl rfl ?_
 refine XA rfl rfl rfl (XR_nil ?_)
 refine X_if rfl (fun h => ?_) (fun h => ?_)
 ·refine X_seq (X_reg (XA rfl rfl rfl (XA rfl rfl rfl (XR_nil ?_))))
  refine X_ret (.cons (.tmp rfl) (.cons (.tmp rfl) .nil)) ?_
  have he : errW li = 5 := by unfold errW; rw [if_pos (by omega)]
  refine ⟨_, by rw [he], ?_⟩
  unfold lensI
  rw [he, if_neg (by omega)]
  exact ((St.start h0).nilrow 3 1)
 ·refine X_seq (X_reg (XV rfl rfl rfl ?_))
  refine XR_wa (opl_call (wright_spec 1073741824 hr hl hn) rfl (by kernel_rfl)) rfl rfl rfl ?_
  rintro _ hp ⟨rfl, hx⟩
  first | refine XR_a (op_notd rfl) rfl rfl ?_ | refine XR_a (op_not rfl) rfl rfl ?_
  refine XA rfl rfl rfl (XR_nil ?_)
  refine X_if rfl (fun h => ?_) (fun h => ?_)
  ·refine X_seq (X_reg (XA rfl rfl rfl (XA rfl rfl rfl (XR_nil ?_))))
   refine X_ret (.cons (.tmp rfl) (.cons (.tmp rfl) .nil)) ?_
   have he : errW li = 1 := by unfold errW; rw [if_neg (by omega), if_neg h]
   refine ⟨_, by rw [he], ?_⟩
   unfold lensI
   rw [he, if_neg (by omega)]
   exact (((St.start h0).ext hx).nilrow 3 1)
  ·have hR : boundedB 1073741824 li := Decidable.not_not.1 h
   have he0 := errW_zero.2 hR
   have hlens : lensI li = lensW (li.map Int.toNat) := by unfold lensI; rw [if_pos he0]
   rw [hlens, he0]
   have hr2 : Rd h0 A ((li.map Int.toNat).map nV) := by rw [nV_iV, toNat_map fun x hx => (hR.2 x hx).1]; exact hr
   have hwb : ∀ s, wkey (li.map Int.toNat) s ≤ 1073741824 := fun s => by
    unfold wkey
    rcases Nat.lt_or_ge s li.length with h1 | h1
    ·have := (hR.2 li[s] (List.getElem_mem h1)).2
     simp [List.getD, h1]; omega
    ·simp [List.getD, h1]
   have hn320 := hR.1
   have hlw : (li.map Int.toNat).length = n := by rw [List.length_map]; exact hl
   obtain ⟨ws, hws⟩ : ∃ ws, li.map Int.toNat = ws := ⟨_, rfl⟩
   rw [hws] at hr2 hlw hwb ⊢
   have st := (St.start h0).ext hx
   have hsl := syms_len ws
   refine X_skip (X_blk (X_seq (X_reg (XV rfl rfl rfl ?_))))
   refine XR_a (op_len rfl rfl rfl) rfl rfl ?_
   refine XR_wa (opl_mk (by omega) rfl rfl rfl) rfl rfl rfl ?_
   rintro v hp hnew
   have st := st.new hnew
   obtain ⟨Ao, no, co, rfl, _, _, _, _⟩ := st.row 0 rfl
   refine XR_wa (opl_new rfl) rfl rfl rfl ?_
   rintro _ hp ⟨p4, rfl, hnew⟩
   replace st := st.new hnew
   refine XR_wn (opl_store_pt st 0 rfl rfl rfl rfl rfl (rfl)) rfl rfl fun _ hp st => ?_
   simp only [List.set_cons_zero, List.set_cons_succ] at st
   refine XR_nil (X_seq (X_reg (XV rfl rfl rfl ?_)))
   refine XR_wa (opl_call (items_spec (hr2.ext st.low) hlw (by omega)) rfl (by kernel_rfl)) rfl rfl rfl ?_
   rintro v2 hp2 st2
   obtain ⟨As, ns, cs, rfl, hls, _, _, _⟩ := st2.row 0 rfl
   replace st := st.join st2
   simp only [List.cons_append, List.nil_append] at st
   rw [List.length_map, Nat.mul_one] at hls
   have hrow := (st.rdS 2 rfl).1
   rw [List.length_replicate] at hrow
   have hno : no = n := by omega
   rw [hno] at st
   rw [show List.replicate n (Value.int .i64 0) = (outAt ws []).map nV by rw [outAt_nil, List.map_replicate, hlw]; rfl] at st
   refine XR_wa (opl_new rfl) rfl rfl rfl ?_
   rintro _ hp ⟨p5, rfl, hnew⟩
   replace st := st.new hnew
   refine XR_wn (opl_store_pt st 0 rfl rfl rfl rfl rfl (rfl)) rfl rfl fun _ hp st => ?_
   simp only [List.set_cons_zero, List.set_cons_succ] at st
   refine XR_nil (X_seq (X_seq (X_reg ?_)))
   refine XR_a (op_ld (st.cell 0 (i := 0) rfl rfl) rfl rfl rfl) rfl rfl ?_
   refine XR_a (op_len rfl rfl rfl) rfl rfl ?_
   refine XR_a (op_eql rfl rfl) rfl rfl ?_
   refine XR_nil ?_
   refine X_if rfl (fun h => ?_) (fun h => ?_)
   ·have h3 : (syms ws).length = 1 := by omega
    obtain ⟨g5, o5, rfl, hc5⟩ := (st.rdS 1 rfl).2.at_ (by rw [List.length_map]; omega)
    have hs0 := hc5 0 (nV ((syms ws).getD 0 0)) (by rw [List.getElem?_map, List.getElem?_eq_getElem (by omega), getD_eq (by omega)]; rfl)
    have hsn := (mem_syms.1 (getD_mem (l := syms ws) (i := 0) (by omega))).1
    obtain ⟨go, no', co', heo, _⟩ := st.row0 3 rfl (by rw [List.length_map, outAt_len]; omega)
    cases heo
    refine X_draw byKind (by kernel_rfl) (by kernel_rfl) ?_
    refine XR_a (op_ld (st.cell 2 (i := 0) rfl rfl) rfl rfl rfl) rfl rfl ?_
    refine XR_a (op_ld (st.cell 0 (i := 0) rfl rfl) rfl rfl rfl) rfl rfl ?_
    refine XR_a (op_index1 (i := 0) rfl rfl rfl (by omega)) rfl rfl ?_
    refine XR_a (op_ld (hs0) rfl rfl rfl) rfl rfl ?_
    first | refine XR_a (op_index1 rfl rfl rfl (by omega)) rfl rfl ?_ | refine XR_a (op_index rfl rfl rfl (by omega)) rfl rfl ?_
    refine XR_wn (opl_store_row (v := nV 1) st 3 rfl rfl rfl (by rw [List.length_map, outAt_len]; omega) rfl rfl) rfl rfl fun _ hp st => ?_
    simp only [List.set_cons_zero, List.set_cons_succ] at st
    rw [map_set_nV, outAt_nil, lensW_single h3] at st
    refine XR_nil (X_seq (X_seq (X_reg ?_)))
    refine XR_a (op_ld (st.cell 0 (i := 0) rfl rfl) rfl rfl rfl) rfl rfl ?_
    refine XR_a (op_len rfl rfl rfl) rfl rfl ?_
    refine XR_a (op_lss rfl rfl) rfl rfl ?_
    refine XR_nil ?_
    refine X_if rfl (fun h => ?_) (fun h => ?_)
    ·refine X_seq (X_reg ?_)
     refine XR_a (op_ld (st.cell 2 (i := 0) rfl rfl) rfl rfl rfl) rfl rfl ?_
     refine XA rfl rfl rfl (XA rfl rfl rfl (XR_nil ?_))
     refine X_ret (.cons (.tmp rfl) (.cons (.tmp rfl) .nil)) ?_
     exact ⟨_, rfl, (st.re 4 [3, 0, 1, 2] (by decide)).keep 1⟩
    ·exact absurd h (by omega)
   ·refine X_skip (X_seq (X_seq (X_reg ?_)))
    refine XR_a (op_ld (st.cell 0 (i := 0) rfl rfl) rfl rfl rfl) rfl rfl ?_
    refine XR_a (op_len rfl rfl rfl) rfl rfl ?_
    refine XR_a (op_lss rfl rfl) rfl rfl ?_
    refine XR_nil ?_
    refine X_if rfl (fun h => ?_) (fun h => ?_)
    ·refine X_seq (X_reg ?_)
     refine XR_a (op_ld (st.cell 2 (i := 0) rfl rfl) rfl rfl rfl) rfl rfl ?_
     refine XA rfl rfl rfl (XA rfl rfl rfl (XR_nil ?_))
     refine X_ret (.cons (.tmp rfl) (.cons (.tmp rfl) .nil)) ?_
     rename_i h3 h4
     refine ⟨_, rfl, ?_⟩
     rw [lensW_zero (by omega), ← outAt_nil]
     exact (st.re 4 [3, 0, 1, 2] (by decide)).keep 1
    ·refine X_skip (X_seq ?_)
     have h2n : 2 ≤ (syms ws).length := by omega
     obtain ⟨go, no', co', heo, _⟩ := st.row0 3 rfl (by rw [List.length_map, outAt_len]; omega)
     cases heo
     refine X_reg (XV rfl rfl rfl ?_)
     refine XR_a (op_ld (st.cell 0 (i := 0) rfl rfl) rfl rfl rfl) rfl rfl ?_
     refine XR_wa (opl_call (rows_spec) rfl (by kernel_rfl)) rfl rfl rfl ?_
     rintro _ hp3 ⟨pa, pq, rfl, st3⟩
     replace st := st.join st3
     simp only [List.cons_append, List.nil_append] at st
     have stc := st.re 6 [0, 1, 3, 2, 4, 5] (by decide)
     simp only [List.map_cons, List.map_nil, getR] at stc
     have hbase := stc.low
     refine XR_wa (opl_call (collect_rows (α := List Value × List (Value × List Value)) (Q := fun x => x.1.length = 15 ∧ ∀ j, j < 15 → (x.1.getD j (.slice none 0 0), (rowE (sws ws) (j + 1)).flatMap eC) ∈ x.2) (out := fun x => x.1) (F2 := fun x => rowsR 162 2 x.2 :: Bn.row 3 1 (.slice As ns cs) ((syms ws).map nV) :: _) (lb := [.pointer (some ⟨pa, 0, none⟩), .pointer (some ⟨pq, 0, none⟩)]) stc.here (by kernel_rfl) (fun JR G y h hlow s hround => by refine Ret.mono (rows_iter (ws := ws) (F := [_, _, _] ++ G) JR (s.perm (((List.perm_append_comm_assoc [_, _, _] (JR []) G).cons _).cons _ |>.cons _)) (fun h' hl' => hr2.ext ((hbase.trans hlow).trans hl')) hlw (fun s hs => by have := (mem_syms.1 hs).1; omega) (by omega) (fun s _ => hwb s) hround) ?_; rintro _ h' ⟨vs, L, e1, e2, s2⟩; exact ⟨(vs, L), ⟨e1, e2⟩, s2⟩)) rfl (by kernel_rfl)) rfl rfl rfl ?_
     rintro v6 hp6 ⟨⟨vs, L⟩, ⟨hvs, hvL⟩, st6⟩
     obtain ⟨A6, n6, c6, rfl, hl6, _, _, _⟩ := st6.row 0 rfl
     simp only at st6 hl6 hvs hvL
     obtain rfl : n6 = 15 := by omega
     replace st := stc.trans st6
     refine XA rfl rfl rfl (XR_nil (X_seq (X_reg ?_)))
     refine XR_a (op_ld (st.cell 3 (i := 0) rfl rfl) rfl rfl rfl) rfl rfl ?_
     refine XR_a (op_len rfl rfl rfl) rfl rfl ?_
     first | refine XR_a (op_mulN (m := 2) rfl rfl (by simp only [inK]; omega)) rfl rfl ?_ | refine XR_a (op_mulI rfl rfl (by simp only [inK]; omega)) rfl rfl ?_ | refine XR_a (op_mul rfl rfl) rfl rfl ?_
     refine XR_a (op_subN (m := 2 * ns) (n := 2) rfl rfl (by omega) (by simp only [inK]; omega)) rfl rfl ?_
     refine XR_wa (opl_new rfl) rfl rfl rfl ?_
     rintro _ hp ⟨p7, rfl, hnew⟩
     replace st := st.new hnew
     refine XR_wn (opl_store_pt st 0 rfl rfl rfl rfl rfl (rfl)) rfl rfl fun _ hp st => ?_
     simp only [List.set_cons_zero, List.set_cons_succ] at st
     refine XR_nil (X_seq (X_seq (X_reg (XV rfl rfl rfl ?_))))
     refine XR_wa (opl_call (backward_spec) rfl (by kernel_rfl)) rfl rfl rfl ?_
     rintro _ hp8 ⟨pb, rfl, st8⟩
     replace st := st.join st8
     simp only [List.cons_append, List.nil_append] at st
     refine XR_nil (X_block ?_)
     refine X_rangeS st rfl rfl (by kernel_rfl) fun fn tmps LL y d hp1 hL hok hx1 st1 => ?_
     obtain ⟨JR, hJR⟩ : ∃ JR : Nat → List Res, JR = fun j => [exR fun x : List Nat × Nat => andR (x.1 ++ lev (sws ws) (15 - j) x.2 = levW ws ∧ x.2 ≤ (rowE (sws ws) (15 - j)).length) (starR (pt p7 3 [nV x.2]) (Bn.row 3 1 (.slice (some ⟨go, 0, none⟩) n co) ((outAt ws x.1).map nV))),
      obj y (LL .ready none), rowsR 162 2 L, Bn.row 3 1 (.slice As ns cs) ((syms ws).map nV), pt p5 72 [.slice As ns cs], pt p4 72 [.slice (some ⟨go, 0, none⟩) n co]] := ⟨_, rfl⟩
     have st9 := st1.re 10 [3, 9, 2, 4, 0, 5, 6, 7, 8, 1] (by decide)
     simp only [List.map_cons, List.map_nil, getR] at st9
     have hT : ([] : List Nat) ++ lev (sws ws) (15 - 0) (2 * ns - 2) = levW ws ∧ 2 * ns - 2 ≤ (rowE (sws ws) (15 - 0)).length := by
      rw [← hls]
      exact ⟨(levW_two h2n).symm, rowW_len h2n (by omega)⟩
     have st10 := (St.ex.2 ⟨([], 2 * ns - 2), St.and.2 ⟨hT, St.star.2 st9⟩⟩ : St h0.size h0 hp1 ((exR fun x : List Nat × Nat => andR (x.1 ++ lev (sws ws) (15 - 0) x.2 = levW ws ∧ x.2 ≤ (rowE (sws ws) (15 - 0)).length) (starR (pt p7 3 [nV x.2]) (Bn.row 3 1 (.slice (some ⟨go, 0, none⟩) n co) ((outAt ws x.1).map nV)))) :: _)).re 9 [1, 2, 0, 3, 4, 5, 6, 7, 8] (by decide)
     simp only [List.map_cons, List.map_nil, getR] at st10
     have st11 : St h0.size h0 hp1 (pt pb 152 [.slice A6 15 c6] :: Bn.row 154 1 (.slice A6 15 c6) vs :: (JR 0 ++ [obj d (.deferred (some []))])) := by rw [hJR]; exact st10
     refine Ret.mono (backward_iter JR (by omega) st11.here ?_) ?_
     ·intro j F' h hlow hj st2
      subst hL
      subst hJR
      simp only [List.cons_append, List.nil_append] at st2
      obtain ⟨⟨dn, t⟩, st2⟩ := St.ex.1 st2
      obtain ⟨⟨hlev, ht⟩, st2⟩ := St.and.1 st2
      replace st2 := St.star.1 st2
      simp only at hlev ht st2
      obtain ⟨r, hr15⟩ : ∃ r, 15 - j = r + 1 := ⟨14 - j, by omega⟩
      rw [hr15] at hlev ht
      have hrj : 15 - 1 - j = r := by omega
      rw [hrj]
      have hmem := hvL r (by omega)
      obtain ⟨A9, n9, c9, hv9, hl9, hn9, _, hrd9⟩ := st2.rowsAt 3 rfl hmem
      rw [flat_length _ 2 (fun _ => rfl)] at hl9
      simp only at hv9
      rw [hv9]
      obtain ⟨k1, k2, k3, k4, _⟩ := row_take (sws_asc ws) r t ht
      rw [sws_length] at k2
      have hrb := rowE_bd (sws ws) (r + 1)
      rw [sws_length] at hrb
      refine rret_of_X (st2.obj_at 2 rfl) hok rfl rfl fun w0 hw0 => ?_
      simp only [penv]
      refine X_reg (XA rfl rfl rfl (XR_nil ?_))
      refine X_begin (st2.obj_at 2 rfl) ?_
      have st := st2.loop 2 .busy none rfl
      simp only [List.set_cons_zero, List.set_cons_succ] at st
      refine X_block (X_seq (X_reg (XA rfl rfl rfl (XR_nil (X_seq (X_seq (X_reg (XV rfl rfl rfl ?_))))))))
      refine XR_a (op_ld (st.cell 0 (i := 0) rfl rfl) rfl rfl rfl) rfl rfl ?_
      refine XR_a (op_slice_h rfl rfl rfl (by omega)) rfl rfl ?_
      rw [cutA_zero]
      refine XR_a (op_len rfl rfl rfl) rfl rfl ?_
      refine XV rfl rfl rfl (XR_nil (X_block ?_))
      rw [← outIn_zero] at st
      refine X_loop (fun s => t - s.1) (fun s => [(4, .pointer (some ⟨p4, 0, none⟩)), (5, .pointer (some ⟨p5, 0, none⟩)), (7, .pointer (some ⟨p7, 0, none⟩)), (10, nV s.2), (52, .slice A9 t c9), (53, nV t), (54, nV s.1)])
       (fun (s : Nat × Nat) hp => s.1 ≤ t ∧ s.2 = ((rowE (sws ws) (r + 1)).take s.1).countP isItem ∧ Low h0.size h hp ∧ St h0.size h hp (pt p7 3 [nV t] :: Bn.row 3 1 (.slice (some ⟨go, 0, none⟩) n co) ((outIn ws dn s.2).map nV) :: obj y (loopR fn tmps #[48, 49] _ _ d .busy none) :: rowsR 162 2 L :: Bn.row 3 1 (.slice As ns cs) ((syms ws).map nV) :: pt p5 72 [.slice As ns cs] :: pt p4 72 [.slice (some ⟨go, 0, none⟩) n co] :: F'))
       (0, 0) (.cons rfl (.cons rfl (.cons rfl (.cons rfl (.cons rfl (.cons rfl (.cons rfl (.nil _)))))))) ⟨Nat.zero_le _, by simp, st.low, st⟩ ?_
      clear st
      rintro ⟨i, k⟩ hp9 ⟨hi, hk, hlow9, st⟩
      simp only at hi hk st ⊢
      refine X_seq (X_reg ?_)
      refine XR_a (op_lss rfl rfl) rfl rfl ?_
      refine XR_nil (X_seq ?_)
      refine X_if rfl (fun h => ?_) (fun h => ?_)
      ·have hit : i < (rowE (sws ws) (r + 1)).length := by omega
       have hrd9 := (st.rowsAt 3 rfl hmem)
       simp only [hv9] at hrd9
       obtain ⟨A9', n9', c9', he9, _, _, _, hrd9⟩ := hrd9
       cases he9
       obtain ⟨g9, o9, rfl, hc9⟩ := Rd.flat eC 2 hrd9 (fun _ => rfl) (by omega) (by omega)
       have hcell := hc9 i hit
       have htk := List.take_succ_eq_append_getElem hit
       obtain ⟨e, hee⟩ : ∃ e, (rowE (sws ws) (r + 1))[i] = e := ⟨_, rfl⟩
       rw [hee] at hcell htk
       have hk' : ((rowE (sws ws) (r + 1)).take (i + 1)).countP isItem = k + if isItem e = true then 1 else 0 := by
        rw [htk, List.countP_append, List.countP_singleton, hk]
       obtain ⟨q1, q2, _⟩ := row_take (sws_asc ws) r (i + 1) (by omega)
       unfold numI at q1 q2
       rw [sws_length] at q2
       refine X_skip (X_seq (X_block (X_seq (X_reg ?_))))
       refine XR_a (op_index (i := i) rfl rfl rfl (by omega)) rfl rfl ?_
       refine XR_a (op_ldA (vs := eC e) (fun j u hu => hcell j u hu) rfl rfl rfl rfl) rfl rfl ?_
       refine XR_wa (opl_new rfl) rfl rfl rfl ?_
       rintro _ hp ⟨p12, rfl, hnew⟩
       replace st := st.new hnew
       refine XR_wn (opl_store_whole (us := eC e) st 0 rfl rfl rfl rfl rfl (one_eC e) rfl) rfl rfl fun _ hp st => ?_
       simp only [List.set_cons_zero] at st
       refine XR_nil (X_seq (X_reg ?_))
       first | refine XR_a (op_field0 rfl rfl) rfl rfl ?_ | refine XR_a (op_fieldn rfl rfl) rfl rfl ?_
       refine XR_a (op_ld (st.cell 0 (i := 1) rfl rfl) rfl rfl rfl) rfl rfl ?_
       refine XR_nil ?_
       refine X_cond rfl (fun h => ?_) (fun h => ?_)
       ·rw [if_pos h] at hk'
        have hks : k < (syms ws).length := by omega
        obtain ⟨g5, o5, rfl, hc5⟩ := (st.rdS 5 rfl).2.at_ (by rw [List.length_map]; omega)
        have hsk := hc5 k (nV ((syms ws).getD k 0)) (by rw [List.getElem?_map, List.getElem?_eq_getElem hks, getD_eq hks]; rfl)
        have hsn := (mem_syms.1 (getD_mem (l := syms ws) hks)).1
        have hog := outIn_get (L := dn) (k := k) hsn
        rw [idxOf_getD hks, if_neg (by omega), Nat.add_zero] at hog
        obtain ⟨g6, o6, he6, hc6⟩ := (st.rdS 2 rfl).2.at_ (by rw [List.length_map, outIn_len]; omega)
        cases he6
        have hov := hc6 _ _ (map_get_nV hog)
        have hset := outIn_set (L := dn) hks
        have hlv := lvl_le dn k
        have hdl : dn.length ≤ 15 := by
         have := congrArg List.length hlev
         rw [List.length_append, lev_length] at this
         have := levW_length (ws := ws)
         omega
        refine X_seq ?_
        refine X_draw byKind (by kernel_rfl) (by kernel_rfl) ?_
        refine XR_a (op_ld (st.cell 7 (i := 0) rfl rfl) rfl rfl rfl) rfl rfl ?_
        refine XR_a (op_ld (st.cell 6 (i := 0) rfl rfl) rfl rfl rfl) rfl rfl ?_
        refine XV rfl rfl rfl ?_
        first | refine XR_a (op_index1 rfl rfl rfl (by omega)) rfl rfl ?_ | refine XR_a (op_index rfl rfl rfl (by omega)) rfl rfl ?_
        refine XR_a (op_ld (hsk) rfl rfl rfl) rfl rfl ?_
        first | refine XR_a (op_index1 rfl rfl rfl (by omega)) rfl rfl ?_ | refine XR_a (op_index rfl rfl rfl (by omega)) rfl rfl ?_
        refine XR_a (op_ld (hov) rfl rfl rfl) rfl rfl ?_
        first | refine XR_a (op_addN (n := 1) rfl rfl (by simp only [inK]; omega)) rfl rfl ?_ | refine XR_a (op_addI rfl rfl (by simp only [inK]; omega)) rfl rfl ?_ | refine XR_a (op_add rfl rfl) rfl rfl ?_
        first | refine XR_a (op_index1 rfl rfl rfl (by omega)) rfl rfl ?_ | refine XR_a (op_index rfl rfl rfl (by omega)) rfl rfl ?_
        refine XR_wn (opl_store_row (v := nV (lvl dn k + 1)) st 2 rfl rfl rfl (by rw [List.length_map, outIn_len]; omega) rfl rfl) rfl rfl fun _ hp st => ?_
        simp only [List.set_cons_zero, List.set_cons_succ] at st
        rw [map_set_nV, hset] at st
        refine XR_nil (X_reg (XV rfl rfl rfl ?_))
        first | refine XR_a (op_addN (n := 1) rfl rfl (by simp only [inK]; omega)) rfl rfl ?_ | refine XR_a (op_addI rfl rfl (by simp only [inK]; omega)) rfl rfl ?_ | refine XR_a (op_add rfl rfl) rfl rfl ?_
        refine XA rfl rfl rfl (XR_nil (X_blk (X_reg ?_)))
        first | refine XR_a (op_addN (n := 1) rfl rfl (by simp only [inK]; omega)) rfl rfl ?_ | refine XR_a (op_addI rfl rfl (by simp only [inK]; omega)) rfl rfl ?_ | refine XR_a (op_add rfl rfl) rfl rfl ?_
        refine XV rfl rfl rfl (XR_nil ?_)
        exact X_again (i + 1, k + 1) (.cons rfl (.cons rfl (.cons rfl (.cons rfl (.cons rfl (.cons rfl (.cons rfl (.nil _)))))))) ⟨by simp only; omega, hk'.symm, st.low, st.tail⟩ (by simp only; omega)
       ·refine X_skip (X_blk (X_reg ?_))
        first | refine XR_a (op_addN (n := 1) rfl rfl (by simp only [inK]; omega)) rfl rfl ?_ | refine XR_a (op_addI rfl rfl (by simp only [inK]; omega)) rfl rfl ?_ | refine XR_a (op_add rfl rfl) rfl rfl ?_
        refine XV rfl rfl rfl (XR_nil ?_)
        have hff : ¬ isItem e = true := by simpa using h
        rw [if_neg hff, Nat.add_zero] at hk'
        exact X_again (i + 1, k) (.cons rfl (.cons rfl (.cons rfl (.cons rfl (.cons rfl (.cons rfl (.cons rfl (.nil _)))))))) ⟨by simp only; omega, hk'.symm, st.low, st.tail⟩ (by simp only; omega)
      ·refine X_exit rfl ?_
       obtain rfl : i = t := by omega
       have hkn : k = numI (sws ws) (r + 1) i := hk
       refine X_reg ?_
       refine XR_a (op_ld (st.cell 0 (i := 0) rfl rfl) rfl rfl rfl) rfl rfl ?_
       refine XV rfl rfl rfl ?_
       first | refine XR_a (op_subN rfl rfl (by omega) (by simp only [inK]; omega)) rfl rfl ?_ | refine XR_a (op_subI rfl rfl (by simp only [inK]; omega)) rfl rfl ?_ | refine XR_a (op_sub rfl rfl) rfl rfl ?_
       first | refine XR_a (op_mulN (m := 2) rfl rfl (by simp only [inK]; omega)) rfl rfl ?_ | refine XR_a (op_mulI rfl rfl (by simp only [inK]; omega)) rfl rfl ?_ | refine XR_a (op_mul rfl rfl) rfl rfl ?_
       refine XR_wn (opl_store_pt st 0 rfl rfl rfl rfl rfl (rfl)) rfl rfl fun _ hp st => ?_
       simp only [List.set_cons_zero, List.set_cons_succ] at st
       refine XR_nil (X_blk ?_)
       refine X_rnd (st.obj_at 2 rfl) ⟨rfl, ?_⟩
       replace st := st.loop 2 .ready none rfl
       simp only [List.set_cons_zero, List.set_cons_succ] at st
       rw [outIn_done] at st
       have hj1 : 15 - (j + 1) = r := by omega
       simp only [List.cons_append, List.nil_append, hj1]
       refine St.ex.2 ⟨(dn ++ [k], 2 * (i - k)), St.and.2 ⟨⟨?_, ?_⟩, St.star.2 st⟩⟩
       ·rw [← hlev, lev, ← hkn]; simp
       ·rw [← hkn] at k3; exact k3
     rintro _ h' st2
     subst hJR
     simp only [List.cons_append, List.nil_append] at st2
     refine .inl ⟨_, (st11.trans st2).perm (List.Perm.swap _ _ _), fun hp3 st3 => ?_⟩
     obtain ⟨⟨dn, t⟩, st3⟩ := St.ex.1 (st3.perm (List.Perm.swap _ _ _))
     obtain ⟨⟨hlev, _⟩, st3⟩ := St.and.1 st3
     have st := St.star.1 st3
     simp only at hlev st
     rw [show 15 - 15 = 0 from rfl, lev, List.append_nil] at hlev
     rw [hlev, outAt_levW] at st
     refine X_blk (X_seq (X_reg ?_))
     refine XR_a (op_ld (st.cell 6 (i := 0) rfl rfl) rfl rfl rfl) rfl rfl ?_
     refine XA rfl rfl rfl (XA rfl rfl rfl (XR_nil ?_))
     refine X_retM (d := d) (.cons (.tmp rfl) (.cons (.tmp rfl) .nil)) ?_ (st.obj_at 7 rfl)
     replace st := st.put 7 (.deferred none) rfl
     exact ⟨_, rfl, (st.re 8 [1, 0, 2, 3, 4, 5, 6, 7] (by decide)).keep 1⟩
end Go.Bn
end

section
set_option linter.unusedVariables false
set_option linter.unusedSimpArgs false
set_option maxHeartbeats 4000000
set_option maxRecDepth 20000
namespace Go.Bn
open Go Proofs
theorem lenAt_cast (ls : List Nat) (x : Nat) : lenAt ls (x : Int) = ls.getD x 0 := by unfold lenAt; rw [if_neg (by omega), Int.toNat_natCast]
def putE (li : List Int) : Nat := if li.length < 1 ∨ 320 < li.length then 5 else if ∀ x ∈ li, 0 ≤ x ∧ x ≤ 15 then 0 else 1
noncomputable def putL (li : List Int) : List Bool := if putE li = 0 then putR (li.map Int.toNat) else []
theorem rput_spec {B p n c : Nat} {A : Option Addr} {li : List Int} {bs : List Bool} {F : List Res} {h0 : Heap} (st0 : St B h0 h0 (wrR p bs :: F)) (hrB : ∀ h' rs, St B h0 h' (rs ++ F) → Rd h' A (li.map iV)) (hl : li.length = n) (hn : n ≤ 17592186044416) (hbs : bs.length ≤ 1048576) :
  Ret Try.prog 64 [.pointer (some ⟨p, 0, none⟩), .slice A n c] h0 fun v h' => v = nV (putE li) ∧ St B h0 h' (wrR p (bs ++ putL li) :: F) := by
 refine ret_of_X Try.func64 rfl rfl fun w0 hw0 => ?_
 simp only [argE, Nat.zero_add, Nat.reduceAdd]
 refine X_seq (X_reg ?_)
 refine XR_wa (opl_bx (cs := [.pointer (some ⟨p, 0, none⟩)]) rfl rfl) rfl rfl rfl ?_
 rintro _ hp ⟨p2, rfl, hnew⟩
 have st := st0.new hnew
 refine XA rfl rfl rfl (XR_nil (X_seq (X_block (X_seq (X_reg (XV rfl rfl rfl ?_))))))
 refine XR_a (op_len rfl rfl rfl) rfl rfl ?_
 refine XR_a (op_lss rfl rfl) rfl rfl ?_
 refine XV rfl rfl rfl ?_
 refine XR_if 21 rfl (fun h => ?_) (fun h => ?_)
 ·have h21 := h
  refine XR_no rfl rfl (XR_no rfl rfl (XR_no rfl rfl (XR_a (op_pick_t rfl rfl) rfl rfl (XA rfl rfl rfl (XR_nil (X_then rfl (X_seq (X_reg (XA rfl rfl rfl ?_)))))))))
  refine XR_nil ?_
  refine X_ret (.cons (.tmp rfl) .nil) ?_
  have he : putE li = 5 := by unfold putE; rw [if_pos (by omega)]
  unfold putL
  rw [he, if_neg (by omega), List.append_nil]
  exact ⟨rfl, st.tail⟩
 ·have h21 := h
  refine XV rfl rfl rfl ?_
  refine XR_a (op_len rfl rfl rfl) rfl rfl ?_
  refine XR_a (op_gtr rfl rfl) rfl rfl ?_
  refine XR_a (op_pick_f rfl rfl) rfl rfl (XA rfl rfl rfl (XR_nil ?_))
  refine X_if rfl (fun h => ?_) (fun h => ?_)
  ·refine X_seq (X_reg (XA rfl rfl rfl (XR_nil ?_)))
   refine X_ret (.cons (.tmp rfl) .nil) ?_
   have he : putE li = 5 := by unfold putE; rw [if_pos (by omega)]
   unfold putL
   rw [he, if_neg (by omega), List.append_nil]
   exact ⟨rfl, st.tail⟩
  ·refine X_seq (X_reg ?_)
   refine XR_a (op_ld (st.cell 0 (i := 0) rfl rfl) rfl rfl rfl) rfl rfl ?_
   refine XR_a (op_ptr_nil rfl rfl rfl) rfl rfl ?_
   refine XV rfl rfl rfl (XV rfl rfl rfl ?_)
   refine XR_wa (opl_call (rright_spec (hrB _ [_, _] st) hl hn) rfl (by kernel_rfl)) rfl rfl rfl ?_
   rintro _ _ ⟨rfl, rfl⟩
   first | refine XR_a (op_notd rfl) rfl rfl ?_ | refine XR_a (op_not rfl) rfl rfl ?_
   refine XR_a (op_pick_f rfl rfl) rfl rfl (XA rfl rfl rfl (XR_nil ?_))
   refine X_if rfl (fun h => ?_) (fun h => ?_)
   ·refine X_seq (X_reg (XA rfl rfl rfl (XR_nil ?_)))
    refine X_ret (.cons (.tmp rfl) .nil) ?_
    have he : putE li = 1 := by unfold putE; rw [if_neg (by omega), if_neg h]
    unfold putL
    rw [he, if_neg (by omega), List.append_nil]
    exact ⟨rfl, st.tail⟩
   ·have hb := Decidable.not_not.1 h
    have he : putE li = 0 := by unfold putE; rw [if_neg (by omega), if_pos hb]
    have hpl : putL li = putR (li.map Int.toNat) := by unfold putL; rw [if_pos he]
    have hb2 : ∀ x ∈ li.map Int.toNat, x ≤ 15 := fun x hx => by obtain ⟨y, hy, rfl⟩ := List.mem_map.1 hx; have := hb y hy; omega
    have hrN : ∀ h' rs, St B h0 h' (rs ++ F) → Rd h' A ((li.map Int.toNat).map nV) := fun h' rs hs => by rw [nV_iV, toNat_map fun x hx => (hb x hx).1]; exact hrB h' rs hs
    have hlN : (li.map Int.toNat).length = n := by rw [List.length_map]; exact hl
    rw [he, hpl]
    obtain ⟨ls, hls⟩ : ∃ ls, li.map Int.toNat = ls := ⟨_, rfl⟩
    rw [hls] at hb2 hrN hlN
    rw [hls]
    have hpm := partsL_mem hb2
    have hplen := partsL_len ls
    have hok := plens_ok hb2 (by omega)
    have h19 := plens_len ls
    refine X_skip (X_blk (X_seq (X_reg ?_)))
    refine XR_wa (opl_mk (n := 19) (by omega) rfl rfl rfl) rfl rfl rfl ?_
    rintro v hp hnew
    replace st := st.new hnew
    obtain ⟨go, no, co, rfl, hno, _⟩ := st.row0 0 rfl (by rw [List.length_replicate]; omega)
    obtain rfl : no = 19 := by simpa using hno.symm
    rw [show List.replicate 19 (Value.int .i64 0) = (pcnt []).map nV by rw [pcnt_nil, List.map_replicate]; rfl] at st
    refine XR_wa (opl_new rfl) rfl rfl rfl ?_
    rintro _ hp ⟨p5, rfl, hnew⟩
    replace st := st.new hnew
    refine XR_wn (opl_store_pt st 0 rfl rfl rfl rfl rfl (rfl)) rfl rfl fun _ hp st => ?_
    simp only [List.set_cons_zero, List.set_cons_succ] at st
    refine XR_nil (X_seq (X_seq (X_reg (XV rfl rfl rfl ?_))))
    refine XR_wa (opl_call (rparts_spec) rfl (by kernel_rfl)) rfl rfl rfl ?_
    rintro _ hp3 ⟨pp, rfl, st3⟩
    replace st := st.join st3
    simp only [List.cons_append, List.nil_append] at st
    refine XR_nil (X_block ?_)
    refine X_rangeS st rfl rfl (by kernel_rfl) fun fn tmps L1 y1 d1 hp1 hL1 hok1 hx1 st1 => ?_
    obtain ⟨JR, hJR⟩ : ∃ JR : List (Nat × Nat) → List Res, JR = fun s => [obj y1 (L1 .ready none), pt p5 72 [.slice (some ⟨go, 0, none⟩) 19 co], Bn.row 3 1 (.slice (some ⟨go, 0, none⟩) 19 co) ((pcnt s).map nV)] := ⟨_, rfl⟩
    have st2 := St.reF [_, _, _, _, _] 5 st1 [2, 0, 3, 4, 1] (by decide)
    simp only [List.map_cons, List.map_nil, getR, List.cons_append, List.nil_append] at st2
    have st11 : St B h0 hp1 (pt pp 72 [.slice A n c] :: (JR [] ++ (obj d1 (.deferred (some [])) :: pt p2 43 [.pointer (some ⟨p, 0, none⟩)] :: wrR p bs :: F))) := by rw [hJR]; exact st2
    refine Ret.mono (parts_iter JR st11.here (fun h' rs hs => hrN h' (rs ++ [_, _, _]) (by rw [List.append_assoc]; exact st11.trans hs)) hlN (by omega) ?_) ?_
    ·intro s x r F' h hlow hsP st2
     subst hL1
     subst hJR
     simp only [List.cons_append, List.nil_append] at st2
     have hx19 := (hpm x (by rw [← hsP]; simp)).1
     have hsl : s.length < (partsL ls 0).length := by rw [← hsP]; simp
     have hcl := pcnt_le s
     have hog := pcnt_get (s := s) hx19
     have hcx : (s.map (·.1)).count x.1 ≤ s.length := hcl _ (List.mem_of_getElem? hog)
     refine rret_of_X (st2.obj_at 0 rfl) hok1 rfl rfl fun w0 hw0 => ?_
     simp only [penv]
     refine X_reg ?_
     refine XR_wa (opl_new rfl) rfl rfl rfl ?_
     rintro _ hp ⟨p6, rfl, hnew⟩
     have st := st2.new hnew
     refine XR_wn (opl_store_whole (us := pC2 x) st 0 rfl rfl rfl rfl rfl (one_pC2 x) rfl) rfl rfl fun _ hp st => ?_
     simp only [List.set_cons_zero] at st
     refine XR_nil ?_
     refine X_begin (st.obj_at 1 rfl) ?_
     replace st := st.loop 1 .busy none rfl
     simp only [List.set_cons_zero, List.set_cons_succ] at st
     obtain ⟨_, _, he8, hc8⟩ := (st.rdS 3 rfl).2.at_ (by rw [List.length_map, pcnt_len]; omega)
     cases he8
     have hov := hc8 _ _ (map_get_nV hog)
     refine X_block (X_reg ?_)
     refine XR_a (op_ld (st.cell 2 (i := 0) rfl rfl) rfl rfl rfl) rfl rfl ?_
     first | refine XR_a (op_field0 rfl rfl) rfl rfl ?_ | refine XR_a (op_fieldn rfl rfl) rfl rfl ?_
     refine XR_a (op_ld (st.cell 0 (i := 0) rfl rfl) rfl rfl rfl) rfl rfl ?_
     first | refine XR_a (op_index1 rfl rfl rfl (by omega)) rfl rfl ?_ | refine XR_a (op_index rfl rfl rfl (by omega)) rfl rfl ?_
     refine XR_a (op_ld (hov) rfl rfl rfl) rfl rfl ?_
     first | refine XR_a (op_addN (n := 1) rfl rfl (by simp only [inK]; omega)) rfl rfl ?_ | refine XR_a (op_addI rfl rfl (by simp only [inK]; omega)) rfl rfl ?_ | refine XR_a (op_add rfl rfl) rfl rfl ?_
     first | refine XR_a (op_index1 rfl rfl rfl (by omega)) rfl rfl ?_ | refine XR_a (op_index rfl rfl rfl (by omega)) rfl rfl ?_
     refine XR_wn (opl_store_row (v := nV ((s.map (·.1)).count x.1 + 1)) st 3 rfl rfl rfl (by rw [List.length_map, pcnt_len]; exact hx19) rfl rfl) rfl rfl fun _ hp st => ?_
     simp only [List.set_cons_zero, List.set_cons_succ] at st
     rw [map_set_nV, pcnt_set] at st
     refine XR_nil (X_blk ?_)
     refine X_rnd (st.obj_at 1 rfl) ⟨rfl, ?_⟩
     replace st := st.loop 1 .ready none rfl
     simp only [List.set_cons_zero, List.set_cons_succ] at st
     exact st.tail
    rintro _ h' st3
    subst hJR
    simp only [List.cons_append, List.nil_append] at st3
    refine .inl ⟨_, st11.trans st3, fun hp3 st4 => ?_⟩
    have st := st4
    have hrdP := (st.rdS 2 rfl).2
    rw [nV_iV] at hrdP
    have hbW : boundedB 1073741824 ((pcnt (partsL ls 0)).map fun n : Nat => (n : Int)) := by
     refine ⟨by rw [List.length_map, pcnt_len]; omega, fun x hx => ?_⟩
     obtain ⟨y, hy, rfl⟩ := List.mem_map.1 hx
     have := pcnt_le _ y hy; omega
    have hlI : lensI ((pcnt (partsL ls 0)).map fun n : Nat => (n : Int)) = plens ls := by
     unfold lensI
     rw [if_pos (errW_zero.2 hbW), cast_toNat]; rfl
    have hRC : rightC ((plens ls).map fun n : Nat => (n : Int)) := by
     refine ⟨by rw [List.length_map, h19]; omega, ⟨by rw [List.length_map, h19]; omega, fun x hx => ?_⟩, by rw [cast_toNat]; exact hok.2.2.2⟩
     obtain ⟨y, hy, rfl⟩ := List.mem_map.1 hx
     have := hok.2.2.1 y hy; omega
    refine X_blk (X_seq (X_reg ?_))
    refine XR_a (op_ld (st.cell 1 (i := 0) rfl rfl) rfl rfl rfl) rfl rfl ?_
    refine XR_wa (opl_call (lengths_spec hrdP (by rw [List.length_map, pcnt_len]) (by omega)) rfl (by kernel_rfl)) rfl rfl rfl ?_
    rintro _ hp5 ⟨v7, rfl, st5⟩
    rw [hlI] at st5
    obtain ⟨A7, n7, c7, rfl, hl7, _, _, hrd7⟩ := st5.row 0 rfl
    rw [List.length_map, h19, Nat.mul_one] at hl7
    obtain rfl : n7 = 19 := by omega
    replace st := st.join st5
    simp only [List.cons_append, List.nil_append] at st
    have hrd7I := hrd7
    rw [nV_iV] at hrd7I
    refine XV rfl rfl rfl (XR_a (op_extract rfl rfl) rfl rfl (XR_a (op_extract rfl rfl) rfl rfl (XA rfl rfl rfl (XA rfl rfl rfl (XR_nil (X_seq (X_reg (XV rfl rfl rfl ?_))))))))
    refine XR_wa (opl_call (cnew_spec hrd7I (by rw [List.length_map, h19]) (by omega)) rfl (by kernel_rfl)) rfl rfl rfl ?_
    rintro _ hp6 ⟨w, rfl, hx6, hy6, _⟩
    obtain ⟨pc, rfl, sc⟩ := hy6 hRC
    rw [cast_toNat] at sc
    replace st := st.join sc
    simp only [List.cons_append, List.nil_append] at st
    refine XV rfl rfl rfl (XR_a (op_extract rfl rfl) rfl rfl (XR_a (op_extract rfl rfl) rfl rfl ?_))
    refine XR_wa (opl_new rfl) rfl rfl rfl ?_
    rintro _ hp ⟨p9, rfl, hnew⟩
    replace st := st.new hnew
    refine XR_wn (opl_store_pt st 0 rfl rfl rfl rfl rfl (rfl)) rfl rfl fun _ hp st => ?_
    simp only [List.set_cons_zero, List.set_cons_succ] at st
    refine XA rfl rfl rfl (XR_nil (X_seq ?_))
    replace st := St.reF [_, _, _, _, _, _, _, _, _] 9 st [3, 4, 5, 8, 1, 7, 0, 2, 6] (by decide)
    simp only [List.map_cons, List.map_nil, getR, List.cons_append, List.nil_append] at st
    replace st := st.tail.tail.tail
    refine X_reg ?_
    refine XR_a (op_ld (st.cell 2 (i := 0) rfl rfl) rfl rfl rfl) rfl rfl ?_
    refine XV rfl rfl rfl ?_
    refine XR_a (op_len rfl rfl rfl) rfl rfl ?_
    refine XR_a (op_convI (k' := .u32) rfl rfl (by simp only [inK]; omega)) rfl rfl ?_
    refine XR_wa (opl_call (put_spec (n := n) (k := 9) st.here (by omega) (by omega)) rfl (by kernel_rfl)) rfl rfl rfl ?_
    rintro _ hp7 ⟨rfl, st7⟩
    rw [show wd 32 9 = 9 from rfl] at st7
    replace st := st.trans st7
    refine XR_nil (X_seq (X_seq (X_reg (XV rfl rfl rfl ?_))))
    refine XR_a (op_len rfl rfl rfl) rfl rfl ?_
    refine XV rfl rfl rfl (XR_nil (X_block ?_))
    have hh0 : bs ++ bitsN 9 n = bs ++ putHead ls 0 := by unfold putHead; rw [hlN]; simp
    rw [hh0] at st
    refine X_loop (fun i => 19 - i) (fun i => [(1, .slice A n c), (2, .pointer (some ⟨p2, 0, none⟩)), (9, .pointer (some ⟨p9, 0, none⟩)), (60, .slice A7 19 c7), (61, nV 19), (62, nV i)])
     (fun (i : Nat) hp => i ≤ 19 ∧ St B h0 hp (wrR p (bs ++ putHead ls i) :: codeR pc (plens ls) :: pt p2 43 [.pointer (some ⟨p, 0, none⟩)] :: pt p9 75 [.pointer (some ⟨pc, 0, none⟩)] :: Bn.row 3 1 (.slice A7 19 c7) ((plens ls).map nV) :: obj d1 (.deferred (some [])) :: F))
     0 (.cons rfl (.cons rfl (.cons rfl (.cons rfl (.cons rfl (.cons rfl (.nil _))))))) ⟨Nat.zero_le _, st⟩ ?_
    clear st st7
    rintro i hp8 ⟨hi, st⟩
    refine X_seq (X_reg ?_)
    refine XR_a (op_lss rfl rfl) rfl rfl ?_
    refine XR_nil (X_seq ?_)
    refine X_if rfl (fun h => ?_) (fun h => ?_)
    ·obtain ⟨g7, o7, rfl, hc7⟩ := (st.rdS 4 rfl).2.at_ (by rw [List.length_map]; omega)
     have hli := hc7 i (nV ((plens ls).getD i 0)) (by rw [List.getElem?_map, List.getElem?_eq_getElem (by omega), getD_eq (by omega)]; rfl)
     have hl15 : (plens ls).getD i 0 ≤ 15 := by rw [getD_eq (by omega)]; exact hok.2.2.1 _ (List.getElem_mem _)
     have hhl := putHead_len ls i
     refine X_skip (X_seq (X_block (X_seq (X_reg ?_))))
     first | refine XR_a (op_index1 rfl rfl rfl (by omega)) rfl rfl ?_ | refine XR_a (op_index rfl rfl rfl (by omega)) rfl rfl ?_
     refine XR_a (op_ld (hli) rfl rfl rfl) rfl rfl ?_
     refine XA rfl rfl rfl (XR_nil (X_reg ?_))
     refine XR_a (op_ld (st.cell 2 (i := 0) rfl rfl) rfl rfl rfl) rfl rfl ?_
     refine XV rfl rfl rfl ?_
     refine XR_a (op_convI (k' := .u32) rfl rfl (by simp only [inK]; omega)) rfl rfl ?_
     refine XR_wa (opl_call (put_spec (n := (plens ls).getD i 0) (k := 4) st.here (by omega) (by rw [List.length_append]; omega)) rfl (by kernel_rfl)) rfl rfl rfl ?_
     rintro _ hp9 ⟨rfl, st9⟩
     rw [show wd 32 4 = 4 from rfl, List.append_assoc, ← putHead_succ (by omega)] at st9
     replace st := st.trans st9
     refine XR_nil (X_blk (X_reg ?_))
     first | refine XR_a (op_addN (n := 1) rfl rfl (by simp only [inK]; omega)) rfl rfl ?_ | refine XR_a (op_addI rfl rfl (by simp only [inK]; omega)) rfl rfl ?_ | refine XR_a (op_add rfl rfl) rfl rfl ?_
     refine XV rfl rfl rfl (XR_nil ?_)
     exact X_again (i + 1) (.cons rfl (.cons rfl (.cons rfl (.cons rfl (.cons rfl (.cons rfl (.nil _))))))) ⟨by omega, st⟩ (by omega)
    ·refine X_exit rfl (X_seq (X_seq ?_))
     obtain rfl : i = 19 := by omega
     have hhl := putHead_len ls 19
     refine X_reg (XV rfl rfl rfl ?_)
     refine XR_wa (opl_call (rparts_spec) rfl (by kernel_rfl)) rfl rfl rfl ?_
     rintro _ hp10 ⟨pp2, rfl, st10⟩
     replace st := st.join st10
     simp only [List.cons_append, List.nil_append] at st
     refine XR_nil (X_block ?_)
     refine X_rangeS st rfl rfl (by kernel_rfl) fun fn2 tmps2 L2 y2 d2 hp2 hL2 hok2 hx2 st1 => ?_
     obtain ⟨JR, hJR⟩ : ∃ JR : List (Nat × Nat) → List Res, JR = fun s => [obj y2 (L2 .ready none), wrR p (bs ++ putHead ls 19 ++ s.flatMap (partBits (plens ls))), codeR pc (plens ls), pt p2 43 [.pointer (some ⟨p, 0, none⟩)], pt p9 75 [.pointer (some ⟨pc, 0, none⟩)]] := ⟨_, rfl⟩
     have st2 := St.reF [_, _, _, _, _, _, _, _, _] 9 st1 [2, 0, 3, 4, 5, 6, 1, 7, 8] (by decide)
     simp only [List.map_cons, List.map_nil, getR, List.cons_append, List.nil_append] at st2
     have st12 : St B h0 hp2 (pt pp2 72 [.slice A n c] :: (JR [] ++ (obj d2 (.deferred (some [])) :: Bn.row 3 1 (.slice A7 19 c7) ((plens ls).map nV) :: obj d1 (.deferred (some [])) :: F))) := by rw [hJR]; simpa using st2
     refine Ret.mono (parts_iter JR st12.here (fun h' rs hs => hrN h' (rs ++ [_, _, _]) (by rw [List.append_assoc]; exact st12.trans hs)) hlN (by omega) ?_) ?_
     ·intro s x r F' h hlow hsP st2
      subst hL2
      subst hJR
      simp only [List.cons_append, List.nil_append] at st2
      obtain ⟨hx19, hxL, hxH⟩ := hpm x (by rw [← hsP]; simp)
      have hxh := rH_le x.1
      have hsl : s.length < (partsL ls 0).length := by rw [← hsP]; simp
      have hfb := flat_bd (partBits (plens ls)) 22 (partBits_len hok) s
      have hpb := partBits_len hok x
      refine rret_of_X (st2.obj_at 0 rfl) hok2 rfl rfl fun w0 hw0 => ?_
      simp only [penv]
      refine X_reg ?_
      refine XR_wa (opl_new rfl) rfl rfl rfl ?_
      rintro _ hp ⟨p13, rfl, hnew⟩
      have st := st2.new hnew
      refine XR_wn (opl_store_whole (us := pC2 x) st 0 rfl rfl rfl rfl rfl (one_pC2 x) rfl) rfl rfl fun _ hp st => ?_
      simp only [List.set_cons_zero] at st
      refine XR_nil ?_
      refine X_begin (st.obj_at 1 rfl) ?_
      replace st := st.loop 1 .busy none rfl
      simp only [List.set_cons_zero, List.set_cons_succ] at st
      replace st := St.reF [_, _, _, _, _, _] 6 st [2, 3, 0, 1, 4, 5] (by decide)
      simp only [List.map_cons, List.map_nil, getR, List.cons_append, List.nil_append] at st
      refine X_block (X_seq (X_reg ?_))
      first | refine XR_a (op_field0 rfl rfl) rfl rfl ?_ | refine XR_a (op_fieldn rfl rfl) rfl rfl ?_
      refine XR_a (op_ld (st.cell 2 (i := 0) rfl rfl) rfl rfl rfl) rfl rfl ?_
      refine XR_wa (opl_call (bounds_spec x.1 _) rfl (by kernel_rfl)) rfl rfl rfl ?_
      rintro _ _ ⟨rfl, rfl⟩
      refine XV rfl rfl rfl (XR_a (op_extract rfl rfl) rfl rfl (XR_a (op_extract rfl rfl) rfl rfl (XR_a (op_extract rfl rfl) rfl rfl (XA rfl rfl rfl (XA rfl rfl rfl (XA rfl rfl rfl (XR_nil (X_seq (X_reg ?_)))))))))
      refine XR_a (op_ld (st.cell 5 (i := 0) rfl rfl) rfl rfl rfl) rfl rfl ?_
      refine XR_a (op_ld (st.cell 4 (i := 0) rfl rfl) rfl rfl rfl) rfl rfl ?_
      first | refine XR_a (op_field0 rfl rfl) rfl rfl ?_ | refine XR_a (op_fieldn rfl rfl) rfl rfl ?_
      refine XR_a (op_ld (st.cell 2 (i := 0) rfl rfl) rfl rfl rfl) rfl rfl ?_
      refine XR_wa (opl_call (cput_spec (s := (x.1 : Nat)) st.here hok (by simp only [List.length_append]; omega)) rfl (by kernel_rfl)) rfl rfl rfl ?_
      rintro _ hp14 ⟨rfl, st14⟩
      rw [lenAt_cast, Int.toNat_natCast] at st14
      replace st := st.trans st14
      refine XR_nil (X_reg ?_)
      refine XR_a (op_ld (st.cell 4 (i := 0) rfl rfl) rfl rfl rfl) rfl rfl ?_
      first | refine XR_a (op_field0 rfl rfl) rfl rfl ?_ | refine XR_a (op_fieldn rfl rfl) rfl rfl ?_
      refine XR_a (op_ld (st.cell 2 (i := 1) rfl rfl) rfl rfl rfl) rfl rfl ?_
      refine XV rfl rfl rfl ?_
      refine XR_a (op_subN (m := x.2) (n := rL x.1) rfl rfl hxL (by simp only [inK]; omega)) rfl rfl ?_
      refine XR_a (op_convI (k' := .u32) rfl rfl (by simp only [inK]; omega)) rfl rfl ?_
      refine XV rfl rfl rfl ?_
      refine XR_wa (opl_call (put_spec (n := x.2 - rL x.1) (k := ((rW x.1 : Nat) : Int)) st.here (by omega) (by simp only [List.length_append, codeBits_length]; have h15 : (plens ls).getD x.1 0 ≤ 15 := by { rw [getD_eq (by omega)]; exact hok.2.2.1 _ (List.getElem_mem _) }; omega)) rfl (by kernel_rfl)) rfl rfl rfl ?_
      rintro _ hp15 ⟨rfl, st15⟩
      rw [wd_nat (by have := rW_le x.1; omega)] at st15
      replace st := st.trans st15
      refine XR_nil (X_blk ?_)
      refine X_rnd (st.obj_at 3 rfl) ⟨rfl, ?_⟩
      replace st := st.loop 3 .ready none rfl
      simp only [List.set_cons_zero, List.set_cons_succ] at st
      have e : bs ++ putHead ls 19 ++ s.flatMap (partBits (plens ls)) ++ codeBits (val (plens ls) x.1) ((plens ls).getD x.1 0) ++ bitsN (rW x.1) (x.2 - rL x.1) = bs ++ putHead ls 19 ++ (s ++ [x]).flatMap (partBits (plens ls)) := by
       rw [List.flatMap_append]
       simp [partBits]
      rw [e] at st
      replace st := St.reF [_, _, _, _, _, _] 6 st [2, 3, 0, 1, 4, 5] (by decide)
      simp only [List.map_cons, List.map_nil, getR, List.cons_append, List.nil_append] at st
      exact st.tail
     rintro _ h' st3
     subst hJR
     simp only [List.cons_append, List.nil_append] at st3
     refine .inl ⟨_, st12.trans st3, fun hp3 st4 => ?_⟩
     have st := st4
     refine X_blk (X_seq (X_reg (XA rfl rfl rfl (XR_nil ?_))))
     refine X_retM2 (d := d2) (e := d1) (.cons (.tmp rfl) .nil) ?_ (st.obj_at 5 rfl) ((st.put 5 (.deferred none) rfl).obj_at 7 rfl)
     replace st := (st.put 5 (.deferred none) rfl).put 7 (.deferred none) rfl
     simp only [List.set_cons_zero, List.set_cons_succ] at st
     replace st := St.reF [_, _, _, _, _, _, _, _] 8 st [0, 2, 3, 4, 5, 6, 7, 1] (by decide)
     simp only [List.map_cons, List.map_nil, getR, List.cons_append, List.nil_append] at st
     refine ⟨rfl, ?_⟩
     unfold putR
     rw [← List.append_assoc]
     exact st.tail.tail.tail.tail.tail.tail.tail
end Go.Bn
end

section
set_option linter.unusedVariables false
set_option linter.unusedSimpArgs false
set_option maxHeartbeats 4000000
set_option maxRecDepth 20000
namespace Go.Bn
open Go Proofs
theorem castN_iV (z : List Nat) : z.map nV = (castI z).map iV := by unfold castI; rw [List.map_map]; rfl
theorem castN_len (z : List Nat) : (castI z).length = z.length := by unfold castI; rw [List.length_map]
theorem St.rdM {B : Nat} {h0 hp : Heap} {rs : List Res} (s : St B h0 hp rs) {e sz n c : Nat} {A : Option Addr} {vs : List Value} (h : Bn.row e sz (.slice A n c) vs ∈ rs) : Rd hp A vs := by
 obtain ⟨j, hj, he⟩ := List.getElem_of_mem h
 exact (s.rdS j (by rw [List.getElem?_eq_getElem hj, he])).2
theorem lensI_cast {ws : List Nat} (h2 : ws.length ≤ 320) (hw : ∀ x ∈ ws, x ≤ 1073741824) : lensI (castI ws) = lensW ws := by
 have hb : boundedB 1073741824 (castI ws) := by
  refine ⟨by rw [castN_len]; exact h2, fun x hx => ?_⟩
  obtain ⟨y, hy, rfl⟩ := List.mem_map.1 hx
  have := hw y hy
  omega
 have he : errW (castI ws) = 0 := by
  unfold errW
  rw [castN_len, if_neg (by omega), if_pos hb]
 unfold lensI
 rw [if_pos he, castI_toNat]
theorem putL_cast {ls : List Nat} (h : lensOK ls) : putL (castI ls) = putR ls := by
 have hb : ∀ x ∈ castI ls, 0 ≤ x ∧ x ≤ 15 := by
  intro x hx
  obtain ⟨y, hy, rfl⟩ := List.mem_map.1 hx
  have := h.2.2.1 y hy
  omega
 have he : putE (castI ls) = 0 := by
  unfold putE
  rw [castN_len, if_neg (by have := h.1; have := h.2.1; omega), if_pos hb]
 unfold putL
 rw [if_pos he, castI_toNat]
theorem btable_spec {B p n c : Nat} {A : Option Addr} {ws : List Nat} {bs : List Bool} {F : List Res} {h0 : Heap} (st0 : St B h0 h0 (wrR p bs :: F)) (hrB : ∀ h' rs, St B h0 h' (rs ++ F) → Rd h' A (ws.map nV)) (hl : ws.length = n) (h1 : 1 ≤ n) (h2 : n ≤ 320) (hw : ∀ x ∈ ws, x ≤ 1073741824) (hs : (syms ws).length ≠ 0) (hbs : bs.length ≤ 1048576) :
  Ret Try.prog 39 [.pointer (some ⟨p, 0, none⟩), .slice A n c] h0 fun v h' => ∃ q, v = .pointer (some ⟨q, 0, none⟩) ∧ St B h0 h' (wrR p (bs ++ putR (lensW ws)) :: codeR q (lensW ws) :: F) := by
 have hok := lensW_ok (ws := ws) (by omega) (by omega) hs
 refine ret_of_X Try.func39 rfl rfl fun w0 hw0 => ?_
 simp only [argE, Nat.zero_add, Nat.reduceAdd]
 have st := st0
 refine X_seq (X_reg (XA rfl rfl rfl (XR_nil (X_seq (X_reg (XV rfl rfl rfl ?_))))))
 refine XR_wa (opl_call (lengths_spec (li := castI ws) (by rw [← castN_iV]; exact hrB _ [_] st) (by rw [castN_len]; exact hl) (by omega)) rfl (by kernel_rfl)) rfl rfl rfl ?_
 rintro _ hp1 ⟨v1, rfl, st1⟩
 rw [lensI_cast (by omega) hw] at st1
 replace st := st.join st1
 clear st1
 obtain ⟨A1, n1, c1, rfl, hl1, _, _, hrd1⟩ := st.row 0 rfl
 rw [List.length_map, lensW_length, Nat.mul_one] at hl1
 refine XV rfl rfl rfl (XR_a (op_extract rfl rfl) rfl rfl (XR_a (op_extract rfl rfl) rfl rfl (XA rfl rfl rfl (XA rfl rfl rfl (XR_nil (X_seq (X_reg (XV rfl rfl rfl ?_))))))))
 refine XR_wa (opl_call (cnew_spec (li := castI (lensW ws)) (by rw [← castN_iV]; exact hrd1) (by rw [castN_len, lensW_length]; exact hl1) (by omega)) rfl (by kernel_rfl)) rfl rfl rfl ?_
 rintro _ hp2 ⟨w, rfl, hx2, hyes, _⟩
 obtain ⟨q, rfl, stq⟩ := hyes (rightC_cast hok)
 rw [castI_toNat] at stq
 replace st := st.join stq
 clear stq hyes
 replace st := St.reF [_, _, _] 3 st [2, 0, 1] (by decide)
 simp only [List.map_cons, List.map_nil, getR, List.cons_append, List.nil_append] at st
 refine XV rfl rfl rfl (XR_a (op_extract rfl rfl) rfl rfl (XR_a (op_extract rfl rfl) rfl rfl (XA rfl rfl rfl (XA rfl rfl rfl (XR_nil (X_seq (X_reg (XV rfl rfl rfl (XV rfl rfl rfl ?_)))))))))
 refine XR_wa (opl_call (rput_spec (li := castI (lensW ws)) st.here (fun h' rs hs => by rw [← castN_iV]; exact hs.rdM (List.mem_append_right _ (List.mem_cons_of_mem _ List.mem_cons_self))) (by rw [castN_len, lensW_length]; exact hl1) (by omega) hbs) rfl (by kernel_rfl)) rfl rfl rfl ?_
 rintro _ hp3 ⟨rfl, st3⟩
 replace st := st.trans st3
 rw [putL_cast hok] at st
 refine XR_nil (X_seq (X_reg (XV rfl rfl rfl (XA rfl rfl rfl (XR_nil ?_)))))
 refine X_ret (.cons (.tmp rfl) .nil) ?_
 exact ⟨q, rfl, (St.reF [_, _, _] 3 st [2, 0, 1] (by decide)).tail⟩
theorem bone_spec {B p q : Nat} {ls : List Nat} {k : Kls} {bs : List Bool} {F : List Res} {h0 : Heap} (st0 : St B h0 h0 (wrR p bs :: codeR q ls :: F)) (hok : lensOK ls) (hk : 0 ≤ k.ext ∧ k.ext < 4294967296) (hbs : bs.length ≤ 1099511626000) :
  Ret Try.prog 40 [.pointer (some ⟨p, 0, none⟩), .pointer (some ⟨q, 0, none⟩), .agg (clsV k).toArray] h0 fun _ h' => St B h0 h' (wrR p (bs ++ symB ls k) :: codeR q ls :: F) := by
 obtain ⟨x, hx⟩ : ∃ x : Nat, k.ext = x := ⟨k.ext.toNat, by omega⟩
 have hl15 := lens_le hok k.num
 refine ret_of_X Try.func40 rfl rfl fun w0 hw0 => ?_
 simp only [argE, Nat.zero_add, Nat.reduceAdd]
 have st := st0
 refine X_seq (X_reg ?_)
 refine XR_wa (opl_bx (cs := clsV k) rfl rfl) rfl rfl rfl ?_
 rintro _ hp ⟨p5, rfl, hnew⟩
 replace st := st.new hnew
 refine XR_nil (X_seq (X_reg (XV rfl rfl rfl (XV rfl rfl rfl ?_))))
 first | refine XR_a (op_field0 rfl rfl) rfl rfl ?_ | refine XR_a (op_fieldn rfl rfl) rfl rfl ?_
 refine XR_a (op_ld (st.cell 0 (i := 0) rfl rfl) rfl rfl rfl) rfl rfl ?_
 replace st := St.reF [_, _, _] 3 st [1, 2, 0] (by decide)
 simp only [List.map_cons, List.map_nil, getR, List.cons_append, List.nil_append] at st
 refine XR_wa (opl_call (cput_spec st.here hok (by omega)) rfl (by kernel_rfl)) rfl rfl rfl ?_
 rintro _ hp2 ⟨rfl, st2⟩
 replace st := st.trans st2
 clear st2
 refine XR_nil (X_reg (XV rfl rfl rfl ?_))
 first | refine XR_a (op_field0 rfl rfl) rfl rfl ?_ | refine XR_a (op_fieldn rfl rfl) rfl rfl ?_
 refine XR_a (op_ld (st.cell 2 (i := 2) rfl rfl) rfl rfl rfl) rfl rfl ?_
 refine XR_as (.int .u32 ((x : Nat) : Int)) (congrArg (Value.int .u32) hx) ?_
 first | refine XR_a (op_field0 rfl rfl) rfl rfl ?_ | refine XR_a (op_fieldn rfl rfl) rfl rfl ?_
 refine XR_a (op_ld (st.cell 2 (i := 1) rfl rfl) rfl rfl rfl) rfl rfl ?_
 refine XR_wa (opl_call (put_spec (n := x) st.here (by omega) (by rw [List.length_append, codeBits_length]; omega)) rfl (by kernel_rfl)) rfl rfl rfl ?_
 rintro _ hp3 ⟨rfl, st2⟩
 replace st := st.trans st2
 clear st2
 have he : bs ++ codeBits (val ls k.num.toNat) (lenAt ls k.num) ++ bitsN (wd 32 k.bits) x = bs ++ symB ls k := by unfold symB; rw [hx, Int.toNat_natCast, List.append_assoc]
 rw [he] at st
 refine XR_nil ?_
 refine X_end .nil ?_
 exact (St.reF [_, _, _] 3 st [2, 0, 1] (by decide)).tail
theorem splitY_ok {t : Tok} (h : t.right) (hb : 0 ≤ t.byte ∧ t.byte < 256) : (0 ≤ (splitY t).a.ext ∧ (splitY t).a.ext < 4294967296) ∧ (0 ≤ (splitY t).b.ext ∧ (splitY t).b.ext < 4294967296) ∧ 0 ≤ (splitY t).a.num ∧ (splitY t).a.num < 273 ∧ 0 ≤ (splitY t).b.num ∧ (splitY t).b.num < 30 := by
 obtain ⟨_, h1, h2, _, h3, h4⟩ := join_split h hb
 refine ⟨?_, ?_, h1, h2, h3, h4⟩
 ·unfold splitY
  split
  ·simp
  ·rename_i h0
   unfold Tok.right at h
   rw [if_neg h0] at h
   simp only [klsOf]
   omega
 ·unfold splitY
  split
  ·simp [Kls.nil]
  ·rename_i h0
   unfold Tok.right at h
   rw [if_neg h0] at h
   simp only [klsOf]
   omega
theorem bput_spec {B p n c : Nat} {A : Option Addr} {ts : List Tok} {bs : List Bool} {F : List Res} {h0 : Heap} (st0 : St B h0 h0 (wrR p bs :: F)) (hrB : ∀ h' rs, St B h0 h' (rs ++ F) → Rd h' A (ts.flatMap tokV)) (hl : ts.length = n) (hn : n ≤ 17592186044416) (hby : ∀ t ∈ ts, 0 ≤ t.byte ∧ t.byte < 256) (hbs : bs.length ≤ 1000000) :
  Ret Try.prog 16 [.pointer (some ⟨p, 0, none⟩), .slice A n c] h0 fun v h' => v = nV (if rightL ts then 0 else 3) ∧ St B h0 h' (wrR p (bs ++ if rightL ts then blockB (ts.map splitY) else []) :: F) := by
 refine ret_of_X Try.func16 rfl rfl fun w0 hw0 => ?_
 simp only [argE, Nat.zero_add, Nat.reduceAdd]
 have st := st0
 refine X_seq (X_reg (XA rfl rfl rfl (XR_nil (X_seq (X_seq (X_reg (XV rfl rfl rfl ?_)))))))
 refine XR_a (op_ptr_nil rfl rfl rfl) rfl rfl ?_
 refine XR_nil (X_else rfl (X_skip (X_seq (X_reg (XV rfl rfl rfl ?_)))))
 refine XR_wa (opl_call (brows_spec (St.start h0) (fun h' hh => (hrB h0 [_] st).ext hh) hl hn hby) rfl (by kernel_rfl)) rfl rfl rfl ?_
 rintro _ hp1 ⟨w, rfl, hyes, hno⟩
 refine XV rfl rfl rfl ?_
 by_cases hR : rightL ts
 ·replace st := st.join (hyes hR)
  rw [decide_eq_true hR, if_pos hR, if_pos hR]
  clear hyes hno
  have hY : ∀ y ∈ ts.map splitY, (0 ≤ y.a.ext ∧ y.a.ext < 4294967296) ∧ (0 ≤ y.b.ext ∧ y.b.ext < 4294967296) ∧ 0 ≤ y.a.num ∧ y.a.num < 273 ∧ 0 ≤ y.b.num ∧ y.b.num < 30 := fun y hy => by
   obtain ⟨t, ht, rfl⟩ := List.mem_map.1 hy
   exact splitY_ok (hR.2 t ht) (hby t ht)
  obtain ⟨ys, hys⟩ : ∃ ys, ts.map splitY = ys := ⟨_, rfl⟩
  have hyl : ys.length = n := by rw [← hys, List.length_map]; exact hl
  have hn6 := hR.1
  rw [hys] at st hY ⊢
  obtain ⟨A1, n1, c1, rfl, hl1, _⟩ := st.row 0 rfl
  rw [flat_length _ 7 (fun _ => rfl)] at hl1
  obtain rfl : n = n1 := by omega
  have hb30 : ∀ y ∈ ys, y.b.num.toNat < 30 := fun y hy => by have := hY y hy; omega
  have hokA := lA_ok ys
  have hokB := lB_ok hb30
  refine XR_a (op_extract rfl rfl) rfl rfl (XR_a (op_extract rfl rfl) rfl rfl (XA rfl rfl rfl (XA rfl rfl rfl (XR_nil (X_seq (X_seq (X_reg (XV rfl rfl rfl ?_))))))))
  first | refine XR_a (op_notd rfl) rfl rfl ?_ | refine XR_a (op_not rfl) rfl rfl ?_
  refine XR_as (.bool false) rfl ?_
  refine XR_nil (X_else rfl (X_skip (X_seq (X_reg (XV rfl rfl rfl ?_)))))
  refine XR_wa (opl_call (bweigh1_spec (St.start hp1) (fun h' hh => (st.rdS 0 rfl).2.ext hh) hyl (by omega) (fun y hy => (hY y hy).2.2)) rfl (by kernel_rfl)) rfl rfl rfl ?_
  rintro _ hp2 ⟨w1, w2, rfl, st2⟩
  replace st := st.join st2
  clear st2
  obtain ⟨Aa, na, ca, rfl, hla, _⟩ := st.row 0 rfl
  obtain ⟨Ab, nb, cb, rfl, hlb, _⟩ := st.row 1 rfl
  rw [List.length_map, firstW_len, Nat.mul_one] at hla
  rw [List.length_map, secondW_len, Nat.mul_one] at hlb
  subst hla hlb
  replace st := St.reF [_, _, _, _] 4 st [3, 0, 1, 2] (by decide)
  simp only [List.map_cons, List.map_nil, getR, List.cons_append, List.nil_append] at st
  refine XV rfl rfl rfl (XR_a (op_extract rfl rfl) rfl rfl (XR_a (op_extract rfl rfl) rfl rfl (XA rfl rfl rfl (XA rfl rfl rfl (XR_nil (X_seq (X_reg (XV rfl rfl rfl (XV rfl rfl rfl ?_)))))))))
  refine XR_wa (opl_call (btable_spec st.here (fun h' rs hs => hs.rdM (List.mem_append_right _ List.mem_cons_self)) (firstW_len ys) (by omega) (by omega) (fun x hx => by have := firstW_le ys x hx; omega) (firstW_syms ys) (by omega)) rfl (by kernel_rfl)) rfl rfl rfl ?_
  rintro _ hp3 ⟨q1, rfl, st3⟩
  replace st := st.trans st3
  clear st3
  rw [show lensW (firstW ys) = lA ys from rfl] at st
  have hlA := putR_len hokA
  rw [show (lA ys).length = 273 by unfold lA; rw [lensW_length, firstW_len]] at hlA
  refine XV rfl rfl rfl (XV rfl rfl rfl ?_)
  refine XR_wa (opl_call (btable_spec st.here (fun h' rs hs => hs.rdM (List.mem_append_right _ (List.mem_cons_of_mem _ (List.mem_cons_of_mem _ List.mem_cons_self)))) (secondW_len ys) (by omega) (by omega) (fun x hx => by have := secondW_le ys x hx; omega) (secondW_syms hb30) (by rw [List.length_append]; omega)) rfl (by kernel_rfl)) rfl rfl rfl ?_
  rintro _ hp4 ⟨q2, rfl, st3⟩
  replace st := st.trans st3
  clear st3
  rw [show lensW (secondW ys) = lB ys from rfl] at st
  have hlB := putR_len hokB
  rw [show (lB ys).length = 30 by unfold lB; rw [lensW_length, secondW_len]] at hlB
  replace st := (St.reF [_, _, _, _, _, _] 6 st [3, 4, 0, 2, 1, 5] (by decide)).tail.tail
  simp only [List.map_cons, List.map_nil, getR, List.cons_append, List.nil_append] at st
  obtain ⟨la, hla⟩ : ∃ x, lA ys = x := ⟨_, rfl⟩
  obtain ⟨lb, hlb⟩ : ∃ x, lB ys = x := ⟨_, rfl⟩
  have hbl : blockB ys = putR la ++ putR lb ++ ys.flatMap (syB la lb) ++ codeBits (val la 256) (lenAt la 256) := by unfold blockB; rw [hla, hlb]
  rw [hla] at st hokA hlA
  rw [hlb] at st hokB hlB
  rw [hbl]
  have hfl := fun i => flat_bd (syB la lb) 94 (syB_len hokA hokB) (ys.take i)
  refine XA rfl rfl rfl (XA rfl rfl rfl (XR_nil (X_seq (X_seq (X_reg (XV rfl rfl rfl ?_))))))
  refine XR_a (op_len rfl rfl rfl) rfl rfl ?_
  refine XV rfl rfl rfl (XR_nil (X_block ?_))
  refine X_loop (fun i => n - i) (fun i => [(0, .pointer (some ⟨p, 0, none⟩)), (9, .pointer (some ⟨q1, 0, none⟩)), (10, .pointer (some ⟨q2, 0, none⟩)), (33, .slice A1 n c1), (34, nV n), (35, nV i)])
   (fun (i : Nat) hp => i ≤ n ∧ St B h0 hp (wrR p (bs ++ putR la ++ putR lb ++ (ys.take i).flatMap (syB la lb)) :: codeR q1 la :: codeR q2 lb :: row 80 7 (.slice A1 n c1) (ys.flatMap syV) :: F))
   0 (.cons rfl (.cons rfl (.cons rfl (.cons rfl (.cons rfl (.cons rfl (.nil _))))))) ⟨Nat.zero_le _, by rw [List.take_zero, List.flatMap_nil, List.append_nil]; exact st⟩ ?_
  clear st
  rintro i hp ⟨hi, st⟩
  have hfi := hfl i
  rw [List.length_take] at hfi
  refine X_seq (X_reg ?_)
  refine XR_a (op_lss rfl rfl) rfl rfl ?_
  refine XR_nil (X_seq ?_)
  refine X_if rfl (fun h => ?_) (fun h => ?_)
  ·have hil : i < ys.length := by omega
   obtain ⟨y, hy⟩ : ∃ y, ys[i] = y := ⟨_, rfl⟩
   have hyo := hY y (hy ▸ List.getElem_mem hil)
   obtain ⟨gy, oy, rfl, hcy⟩ := Rd.flat syV 7 (st.rdS 3 rfl).2 (fun _ => rfl) (by omega) (by omega)
   have hcx := hcy i hil
   rw [hy] at hcx
   have htk : (ys.take (i + 1)).flatMap (syB la lb) = (ys.take i).flatMap (syB la lb) ++ syB la lb y := by rw [List.take_succ_eq_append_getElem hil, hy, List.flatMap_append]; simp
   refine X_skip (X_seq (X_block (X_seq (X_reg ?_))))
   refine XR_a (op_index (i := i) rfl rfl rfl (by omega)) rfl rfl ?_
   refine XR_a (op_ldA (vs := syV y) hcx rfl rfl rfl rfl) rfl rfl ?_
   refine XR_wa (opl_new rfl) rfl rfl rfl ?_
   rintro _ hp5 ⟨p12, rfl, hnew⟩
   replace st := st.new hnew
   refine XR_wn (opl_store_whole (us := syV y) st 0 rfl rfl rfl rfl rfl (syV_one _) rfl) rfl rfl fun _ hp6 st => ?_
   simp only [List.set_cons_zero, List.set_cons_succ] at st
   refine XR_nil (X_seq (X_reg (XV rfl rfl rfl (XV rfl rfl rfl ?_))))
   first | refine XR_a (op_field0 rfl rfl) rfl rfl ?_ | refine XR_a (op_fieldn rfl rfl) rfl rfl ?_
   refine XR_a (op_ldA (vs := clsV y.a) (st.part 0 0 [] (clsV y.a) (clsV y.b ++ [.bool y.m]) rfl rfl) rfl rfl rfl rfl) rfl rfl ?_
   replace st := St.reF [_, _, _, _, _] 5 st [1, 2, 0, 3, 4] (by decide)
   simp only [List.map_cons, List.map_nil, getR, List.cons_append, List.nil_append] at st
   refine XR_wa (opl_call (bone_spec st.here hokA hyo.1 (by simp only [List.length_append]; omega)) rfl (by kernel_rfl)) rfl rfl rfl ?_
   rintro _ hp7 st2
   replace st := st.trans st2
   clear st2
   refine XR_nil (X_seq (X_reg ?_))
   first | refine XR_a (op_field0 rfl rfl) rfl rfl ?_ | refine XR_a (op_fieldn rfl rfl) rfl rfl ?_
   refine XR_a (op_ld (st.cell 2 (i := 6) rfl rfl) rfl rfl rfl) rfl rfl ?_
   refine XR_as (.bool (decide (y.m = true))) (congrArg Value.bool (by cases y.m <;> rfl)) ?_
   refine XR_nil ?_
   refine X_if rfl (fun h => ?_) (fun h => ?_)
   ·refine X_reg (XV rfl rfl rfl (XV rfl rfl rfl ?_))
    first | refine XR_a (op_field0 rfl rfl) rfl rfl ?_ | refine XR_a (op_fieldn rfl rfl) rfl rfl ?_
    refine XR_a (op_ldA (vs := clsV y.b) (st.part 2 3 (clsV y.a) (clsV y.b) [.bool y.m] rfl rfl) rfl rfl rfl rfl) rfl rfl ?_
    replace st := St.reF [_, _, _, _, _] 5 st [0, 3, 1, 2, 4] (by decide)
    simp only [List.map_cons, List.map_nil, getR, List.cons_append, List.nil_append] at st
    have hsl := symB_len hokA y.a
    refine XR_wa (opl_call (bone_spec st.here hokB hyo.2.1 (by simp only [List.length_append]; omega)) rfl (by kernel_rfl)) rfl rfl rfl ?_
    rintro _ hp8 st2
    replace st := st.trans st2
    clear st2
    refine XR_nil (X_blk (X_reg ?_))
    first | refine XR_a (op_addN (n := 1) rfl rfl (by simp only [inK]; omega)) rfl rfl ?_ | refine XR_a (op_addI rfl rfl (by simp only [inK]; omega)) rfl rfl ?_ | refine XR_a (op_add rfl rfl) rfl rfl ?_
    refine XV rfl rfl rfl (XR_nil ?_)
    have he : bs ++ putR la ++ putR lb ++ (ys.take i).flatMap (syB la lb) ++ symB la y.a ++ symB lb y.b = bs ++ putR la ++ putR lb ++ (ys.take (i + 1)).flatMap (syB la lb) := by
     rw [htk]; unfold syB; rw [if_pos h]; simp only [List.append_assoc]
    rw [he] at st
    replace st := (St.reF [_, _, _, _, _] 5 st [3, 0, 2, 1, 4] (by decide)).tail
    exact X_again (i + 1) (.cons rfl (.cons rfl (.cons rfl (.cons rfl (.cons rfl (.cons rfl (.nil _))))))) ⟨by omega, st⟩ (by omega)
   ·refine X_skip (X_blk (X_reg ?_))
    first | refine XR_a (op_addN (n := 1) rfl rfl (by simp only [inK]; omega)) rfl rfl ?_ | refine XR_a (op_addI rfl rfl (by simp only [inK]; omega)) rfl rfl ?_ | refine XR_a (op_add rfl rfl) rfl rfl ?_
    refine XV rfl rfl rfl (XR_nil ?_)
    have he : bs ++ putR la ++ putR lb ++ (ys.take i).flatMap (syB la lb) ++ symB la y.a = bs ++ putR la ++ putR lb ++ (ys.take (i + 1)).flatMap (syB la lb) := by
     rw [htk]; unfold syB; rw [if_neg h, List.append_nil]; simp only [List.append_assoc]
    rw [he] at st
    replace st := (St.reF [_, _, _, _, _] 5 st [2, 0, 1, 3, 4] (by decide)).tail
    exact X_again (i + 1) (.cons rfl (.cons rfl (.cons rfl (.cons rfl (.cons rfl (.cons rfl (.nil _))))))) ⟨by omega, st⟩ (by omega)
  ·rw [List.take_of_length_le (by omega)] at st hfi
   refine X_exit rfl (X_seq (X_reg (XV rfl rfl rfl (XV rfl rfl rfl ?_))))
   refine XR_wa (opl_call (cput_spec (s := 256) st.here hokA (by simp only [List.length_append]; omega)) rfl (by kernel_rfl)) rfl rfl rfl ?_
   rintro _ hp9 ⟨rfl, st2⟩
   replace st := st.trans st2
   clear st2
   refine XR_nil (X_seq (X_reg (XA rfl rfl rfl (XR_nil ?_))))
   refine X_ret (.cons (.tmp rfl) .nil) ?_
   have he : bs ++ putR la ++ putR lb ++ ys.flatMap (syB la lb) ++ codeBits (val la (256 : Int).toNat) (lenAt la 256) = bs ++ (putR la ++ putR lb ++ ys.flatMap (syB la lb) ++ codeBits (val la 256) (lenAt la 256)) := by
    simp only [List.append_assoc]; rfl
   rw [he] at st
   exact ⟨rfl, (St.reF [_, _, _, _] 4 st [1, 2, 3, 0] (by decide)).tail.tail.tail⟩
 ·replace st := st.ext (hno hR).low
  rw [decide_eq_false hR, if_neg hR, if_neg hR]
  clear hyes hno
  refine XR_a (op_extract rfl rfl) rfl rfl (XR_a (op_extract rfl rfl) rfl rfl (XA rfl rfl rfl (XA rfl rfl rfl (XR_nil (X_seq (X_seq (X_reg (XV rfl rfl rfl ?_))))))))
  first | refine XR_a (op_notd rfl) rfl rfl ?_ | refine XR_a (op_not rfl) rfl rfl ?_
  refine XR_as (.bool true) rfl ?_
  refine XR_nil (X_then rfl (X_seq (X_reg (XA rfl rfl rfl (XR_nil ?_)))))
  refine X_ret (.cons (.tmp rfl) .nil) ?_
  rw [List.append_nil]
  exact ⟨rfl, st⟩
end Go.Bn
end

section
set_option linter.unusedVariables false
set_option linter.unusedSimpArgs false
set_option maxHeartbeats 4000000
set_option maxRecDepth 20000
namespace Go.Bn
open Go Proofs
section
variable {P : Program} {E : Env} {hp : Heap} {cl : Cls} {d : Option Tmp} {ty : TypeId} {pos : String} {af : Array Edge} {g : Option (Nat × Bool)} {x : Operand} {t : TypeId}
theorem opl_litA {e sz b : Nat} {zs us : List Value} {ua : Array Value} (hx : ev E x = some (.agg ua)) (ht : sliceI P t = some (e, sz, b, zs)) (hn : Nat.ble (1 * sz) 16777216 = true) (hs : Nat.blt 0 (1 * sz) = true) (hc : sliceCells 1 sz zs [(0, .agg ua)] = some us.toArray) (hl : us.length = 1 * sz) :
  OpL P ⟨d, .buildSlice t 1 #[(0, x)], ty, pos, af, g⟩ E hp (fun u hp' => New (row e sz u us) hp hp') := by
 intro n a w ho hw K hK
 have hps : evP E (#[(0, x)] : Array (Nat × Operand)).toList = some [(0, .agg ua)] := by simp [evP, hx]
 refine opl_buildSlice hps ht hn hs hc n a w ho hw K fun v' w' hi ⟨h1, h2⟩ => hK v' w' hi ?_
 rw [h1, h2]
 exact new_row hp e sz 1 us hl (by simp only [maxLen]; omega)
end
theorem blockB_len {ys : List Sy} (hb : ∀ y ∈ ys, y.b.num.toNat < 30) : (blockB ys).length ≤ 7000 + 94 * ys.length := by
 have hA := lA_ok ys
 have hB := lB_ok hb
 have h1 := putR_len hA
 have h2 := putR_len hB
 have h3 := flat_bd (syB (lA ys) (lB ys)) 94 (syB_len hA hB) ys
 have h4 := lens_le hA 256
 rw [lA_len] at h1
 rw [lB_len] at h2
 unfold blockB
 simp only [List.length_append, codeBits_length]
 omega
theorem split_b30 {ts : List Tok} (hR : rightL ts) (hby : ∀ t ∈ ts, 0 ≤ t.byte ∧ t.byte < 256) : ∀ y ∈ ts.map splitY, y.b.num.toNat < 30 := fun y hy => by
 obtain ⟨t, ht, rfl⟩ := List.mem_map.1 hy
 have := splitY_ok (hR.2 t ht) (hby t ht)
 omega
theorem lives13 (h0 : Heap) : Ret Try.prog 14 [] h0 fun v h' => v = .bool true ∧ Ext h0 h' := by
 have hR : rightL [(⟨7, 0, 0⟩ : Tok)] := by decide
 have hby : ∀ t ∈ [(⟨7, 0, 0⟩ : Tok)], 0 ≤ t.byte ∧ t.byte < 256 := by decide
 have hbl := blockB_len (split_b30 hR hby)
 have hdis : distOK 0 [(⟨7, 0, 0⟩ : Tok)] := ⟨by decide, trivial⟩
 have hback := fun Z => blockT_back hR hby hdis (most := 1) (by decide) Z
 rw [List.length_map] at hbl
 obtain ⟨BL, hBL⟩ : ∃ BL, blockB ([(⟨7, 0, 0⟩ : Tok)].map splitY) = BL := ⟨_, rfl⟩
 rw [hBL] at hbl
 simp only [hBL] at hback
 have hbl : BL.length ≤ 7094 := by simpa using hbl
 refine ret_of_X Try.func14 rfl rfl fun w0 hw0 => ?_
 simp only [argE, Nat.zero_add, Nat.reduceAdd]
 refine X_seq (X_reg (XA rfl rfl rfl (XR_nil (X_seq (X_reg ?_)))))
 refine XR_wa (opl_new rfl) rfl rfl rfl ?_
 rintro _ hp ⟨p1, rfl, hnew⟩
 have st := ((St.start h0).new hnew).wr0
 refine XR_nil (X_seq (X_reg ?_))
 refine XR_a (op_build (ps := [(0, .int .u8 7)]) (cs := (tokV ⟨7, 0, 0⟩).toArray) rfl rfl) rfl rfl ?_
 refine XR_wa (opl_litA (us := tokV ⟨7, 0, 0⟩) rfl rfl rfl rfl (by kernel_rfl) rfl) rfl rfl rfl ?_
 rintro v2 hp2 hnew
 replace st := (st.new hnew).perm (List.Perm.swap _ _ _)
 obtain ⟨A2, n2, c2, rfl, hl2, _⟩ := st.row 1 rfl
 obtain rfl : n2 = 1 := by simp at hl2; omega
 refine XR_wa (opl_call (bput_spec (n := 1) (ts := [⟨7, 0, 0⟩]) st.here (fun h' rs hs => hs.rdM (List.mem_append_right _ List.mem_cons_self)) rfl (by omega) hby (by simp)) rfl (by kernel_rfl)) rfl rfl rfl ?_
 rintro _ hp3 ⟨rfl, st3⟩
 rw [if_pos hR, hBL] at st3
 rw [if_pos hR]
 replace st := st.trans st3
 rw [List.nil_append] at st
 clear st3
 refine XA rfl rfl rfl (XR_nil (X_seq (X_reg ?_)))
 refine XR_wa (opl_call (wbytes_spec st.here (by omega)) rfl (by kernel_rfl)) rfl rfl rfl ?_
 rintro v3 hp4 st4
 have hpk := bitsB_pack BL
 have hpkl := pack_length BL
 obtain ⟨pk, hpke⟩ : ∃ pk, pack BL = pk := ⟨_, rfl⟩
 rw [hpke] at st4 hpk hpkl
 obtain ⟨A3, n3, c3, rfl, hlen3, _, _, hrd3⟩ := st4.row 0 rfl
 rw [List.length_map, Nat.mul_one] at hlen3
 have hx4 : Ext h0 hp4 := st.low.trans (st4.low.mono st.low.size)
 refine XR_wa (opl_call (rnew_spec) rfl (by kernel_rfl)) rfl rfl rfl ?_
 rintro _ hp5 ⟨q, rfl, st5⟩
 refine XR_wa (opl_call (btake_spec (most := 1) st5.here (fun h' hl' => hrd3.ext (st5.low.trans hl')) hlen3 (by omega) (by simp only [inK]; omega)) rfl (by kernel_rfl)) rfl rfl rfl ?_
 rintro _ hp6 ⟨w, a', rfl, _, _, st6⟩
 rw [hpk, hback] at st6
 rw [hpk, hback]
 simp only at st6
 replace st6 := st5.trans st6
 obtain ⟨A6, n6, c6, rfl, hl6, _⟩ := st6.row0 1 rfl (by simp)
 obtain rfl : n6 = 1 := by simp at hl6; omega
 refine XV rfl rfl rfl (XR_a (op_extract rfl rfl) rfl rfl (XR_a (op_extract rfl rfl) rfl rfl (XA rfl rfl rfl (XA rfl rfl rfl (XR_nil (X_seq (X_reg (XV rfl rfl rfl ?_))))))))
 refine XR_a (op_eql rfl rfl) rfl rfl ?_
 refine XR_as (.bool true) (congrArg Value.bool (decide_eq_true rfl)) ?_
 refine XV rfl rfl rfl (XV rfl rfl rfl ?_)
 refine XR_a (op_eql rfl rfl) rfl rfl ?_
 refine XR_as (.bool true) (congrArg Value.bool (decide_eq_true rfl)) ?_
 refine XR_a (op_pick_t rfl rfl) rfl rfl (XV rfl rfl rfl (XV rfl rfl rfl ?_))
 refine XR_a (op_len rfl rfl rfl) rfl rfl ?_
 refine XR_a (op_eql rfl rfl) rfl rfl ?_
 refine XR_as (.bool true) (congrArg Value.bool (decide_eq_true rfl)) ?_
 refine XR_a (op_pick_t rfl rfl) rfl rfl (XV rfl rfl rfl (XV rfl rfl rfl ?_))
 refine XR_a (op_index (i := 0) rfl rfl rfl (by omega)) rfl rfl ?_
 first | refine XR_a (op_field0 rfl rfl) rfl rfl ?_ | refine XR_a (op_fieldn rfl rfl) rfl rfl ?_
 obtain ⟨_, _, he6, hc6⟩ := (st6.rdS 1 rfl).2.at_ (by simp)
 cases he6
 refine XR_a (op_ld (hc6 0 (.int .u8 7) rfl) rfl rfl rfl) rfl rfl ?_
 refine XR_a (op_eql rfl rfl) rfl rfl ?_
 refine XR_as (.bool true) (congrArg Value.bool (decide_eq_true rfl)) ?_
 refine XR_a (op_pick_t rfl rfl) rfl rfl (XA rfl rfl rfl (XR_nil ?_))
 refine X_ret (.cons (.tmp rfl) .nil) ?_
 exact ⟨rfl, Ext.trans hx4 st6.low⟩
end Go.Bn
end

section
set_option linter.unusedVariables false
set_option linter.unusedSimpArgs false
set_option maxHeartbeats 4000000
set_option maxRecDepth 20000
namespace Go.Bn
open Go Proofs
theorem ofNat_bit (b : Bool) : (UInt8.ofNat b.toNat).toNat = b.toNat := by cases b <;> rfl
theorem pack_ref {m c : Nat} {A : Option Addr} {bs : List Bool} {h0 : Heap} (hr : Rd h0 A ((b01 bs).map byteV)) (hl : bs.length = m) (hm : m ≤ 1099511627776) :
  Ret Try.prog 25 [.slice A m c] h0 fun v h' => St h0.size h0 h' [row 5 1 v ((pack bs).map byteV)] := by
 have hpl := pack_length bs
 refine ret_of_X Try.func25 rfl rfl fun w0 hw0 => ?_
 simp only [argE, Nat.zero_add, Nat.reduceAdd]
 refine X_seq (X_reg (XA rfl rfl rfl (XR_nil (X_seq (X_reg (XA rfl rfl rfl (XR_nil (X_seq (X_reg ?_)))))))))
 refine XA rfl rfl rfl (XA rfl rfl rfl (XR_nil (X_seq (X_seq (X_reg (XA rfl rfl rfl (XR_nil (X_block ?_))))))))
 have st := (St.start h0).nilrow 5 1
 refine X_loop (fun s => m - s.1) (fun s => [(0, .slice A m c), (3, s.2.1), (4, .int .i64 (s.2.2.1 : Nat)), (5, .int .i64 (s.2.2.2 : Nat)), (6, .int .i64 (s.1 : Int))])
  (fun (s : Nat × Value × Nat × Nat) hp => St h0.size h0 hp [row 5 1 s.2.1 (((pack bs).take (if s.1 = m then (m + 7) / 8 else s.1 / 8)).map byteV)] ∧ s.1 ≤ m ∧ (s.1 < m → s.2.2.1 = numB bs (8 * (s.1 / 8)) (s.1 % 8) ∧ s.2.2.2 = 2 ^ (s.1 % 8)))
  (0, _, 0, 1) (.cons rfl (.cons rfl (.cons rfl (.cons rfl (.cons rfl (.nil _)))))) ⟨?_, Nat.zero_le _, fun _ => ⟨by simp [numB_zero], rfl⟩⟩ ?_
 ·simp only
  rw [show (if 0 = m then (m + 7) / 8 else 0 / 8) = 0 by split <;> omega, List.take_zero, List.map_nil]
  exact st
 clear st
 rintro ⟨i, v, q, u⟩ hp ⟨st, hi, hq⟩
 simp only at st hi hq ⊢
 refine X_seq (X_seq (X_reg (XV rfl rfl rfl (XV rfl rfl rfl ?_))))
 refine XR_a (op_len rfl rfl rfl) rfl rfl ?_
 refine XR_a (op_lss rfl rfl) rfl rfl ?_
 refine XR_nil ?_
 refine X_if rfl (fun h => ?_) (fun h => ?_)
 ·obtain ⟨rfl, rfl⟩ := hq (by omega)
  have hlt : i < bs.length := by omega
  rw [if_neg (by omega)] at st
  obtain ⟨b, o, rfl, hc⟩ := (hr.ext st.low).at_ (by rw [List.length_map, b01_length]; omega)
  have hcell := hc i (byteV (UInt8.ofNat bs[i].toNat)) (by rw [List.getElem?_map, b01_get bs _ hlt]; rfl)
  have hin := numB_succ bs (8 * (i / 8)) (i % 8) (by omega)
  have hob := ofNat_bit bs[i]
  have hb1 := Bool.toNat_le bs[i]
  have hidx : (bs[8 * (i / 8) + i % 8]'(by omega)) = bs[i] := by congr 1; omega
  rw [hidx] at hin
  have hn1 := numB_lt bs (8 * (i / 8)) (i % 8)
  have hn2 := numB_lt bs (8 * (i / 8)) (i % 8 + 1)
  have hp31 : 2 ^ (i % 8) ≤ 128 := Nat.le_trans (Nat.pow_le_pow_right (by omega) (show i % 8 ≤ 7 by omega)) (by decide)
  have hp2 : 2 ^ (i % 8 + 1) = 2 ^ (i % 8) * 2 := Nat.pow_succ _ _
  have hpos : 1 ≤ 2 ^ (i % 8) := Nat.two_pow_pos _
  have hpg : ∀ h : i / 8 < (pack bs).length, (pack bs)[i / 8] = UInt8.ofNat (numB bs (8 * (i / 8)) 8) := fun h => pack_get bs _ h
  generalize bs[i] = y at *
  have hprod : 2 ^ (i % 8) * y.toNat ≤ 2 ^ (i % 8) * 1 := Nat.mul_le_mul_left _ hb1
  refine X_skip (X_seq (X_block (X_seq (X_reg (XV rfl rfl rfl (XV rfl rfl rfl (XV rfl rfl rfl (XV rfl rfl rfl ?_))))))))
  first | refine XR_a (op_index1 rfl rfl rfl (by omega)) rfl rfl ?_ | refine XR_a (op_index rfl rfl rfl (by omega)) rfl rfl ?_
  refine XR_a (op_ld (hcell) rfl rfl rfl) rfl rfl ?_
  refine XR_a (op_convI rfl rfl (by simp only [inK]; omega)) rfl rfl ?_
  rw [hob]
  first | refine XR_a (op_mulN rfl rfl (by simp only [inK]; omega)) rfl rfl ?_ | refine XR_a (op_mulI rfl rfl (by simp only [inK]; omega)) rfl rfl ?_ | refine XR_a (op_mul rfl rfl) rfl rfl ?_
  refine XR_a (op_addN rfl rfl (by simp only [inK]; omega)) rfl rfl ?_
  rw [← hin]
  refine XA rfl rfl rfl (XR_nil (X_seq (X_reg (XV rfl rfl rfl ?_))))
  first | refine XR_a (op_mulN (n := 2) rfl rfl (by simp only [inK]; omega)) rfl rfl ?_ | refine XR_a (op_mulI rfl rfl (by simp only [inK]; omega)) rfl rfl ?_ | refine XR_a (op_mul rfl rfl) rfl rfl ?_
  rw [← hp2]
  refine XA rfl rfl rfl (XR_nil (X_seq (X_reg (XV rfl rfl rfl ?_))))
  first | refine XR_a (op_remN (n := 8) rfl rfl (by omega)) rfl rfl ?_ | refine XR_a (op_remI rfl rfl (by omega) (by omega)) rfl rfl ?_ | refine XR_a (op_rem rfl rfl (by omega)) rfl rfl ?_
  refine XR_a (op_eql rfl rfl) rfl rfl ?_
  refine XV rfl rfl rfl ?_
  refine XR_if 27 rfl (fun h => ?_) (fun h => ?_)
  ·refine XR_no rfl rfl (XR_no rfl rfl (XR_no rfl rfl (XR_no rfl rfl (XR_no rfl rfl (XR_a (op_pick_t rfl rfl) rfl rfl (XR_nil (X_then rfl (X_seq (X_reg ?_)))))))))
   refine XV rfl rfl rfl (XV rfl rfl rfl ?_)
   refine XR_a (op_convU rfl rfl rfl) rfl rfl ?_
   refine XR_as (byteV (UInt8.ofNat (numB bs (8 * (i / 8)) (i % 8 + 1)))) (by simp [byteV, IntKind.bits]) ?_
   refine XR_wa (opl_var1 rfl rfl rfl) rfl rfl rfl ?_
   rintro _ hp ⟨A, rfl, hx, hrd⟩
   have st := st.ext hx
   refine XR_wa (opl_append st 0 rfl (hrd) (rfl) (by simp [Value.one, byteV]) (by simp; omega) rfl rfl rfl rfl rfl rfl rfl) rfl rfl rfl fun v hp st => ?_
   simp only [List.set_cons_zero, List.set_cons_succ] at st
   refine XA rfl rfl rfl (XR_nil (X_seq (X_reg (XA rfl rfl rfl (XR_nil (X_reg (XA rfl rfl rfl (XR_nil (X_blk ?_)))))))))
   refine X_reg (XV rfl rfl rfl ?_)
   first | refine XR_a (op_addN (n := 1) rfl rfl (by simp only [inK]; omega)) rfl rfl ?_ | refine XR_a (op_addI rfl rfl (by simp only [inK]; omega)) rfl rfl ?_ | refine XR_a (op_add rfl rfl) rfl rfl ?_
   refine XA rfl rfl rfl (XR_nil ?_)
   have hlast : numB bs (8 * (i / 8)) 8 = numB bs (8 * (i / 8)) (i % 8 + 1) := by
    by_cases h7 : i % 8 = 7
    ·rw [h7]
    ·exact numB_cut bs _ _ _ (by omega) (by omega)
   have hlt8 : i / 8 < (pack bs).length := by omega
   have htk : (pack bs).take (i / 8 + 1) = (pack bs).take (i / 8) ++ [UInt8.ofNat (numB bs (8 * (i / 8)) (i % 8 + 1))] := by
    rw [List.take_succ_eq_append_getElem hlt8, hpg hlt8, hlast]
   rw [← List.map_singleton (f := byteV), ← List.map_append, ← htk] at st
   refine X_again (i + 1, v, 0, 1) (.cons rfl (.cons rfl (.cons rfl (.cons rfl (.cons rfl (.nil _)))))) ⟨?_, by simp only; omega, fun hh => ?_⟩ (by simp only; omega)
   ·simp only
    rw [show (if i + 1 = m then (m + 7) / 8 else (i + 1) / 8) = i / 8 + 1 by split <;> omega]
    exact st
   ·simp only at hh ⊢
    rw [show (i + 1) % 8 = 0 by omega, numB_zero]; exact ⟨rfl, rfl⟩
  ·refine XV rfl rfl rfl (XV rfl rfl rfl ?_)
   refine XR_a (op_len rfl rfl rfl) rfl rfl ?_
   first | refine XR_a (op_subN (n := 1) rfl rfl (by omega) (by simp only [inK]; omega)) rfl rfl ?_ | refine XR_a (op_subI rfl rfl (by simp only [inK]; omega)) rfl rfl ?_ | refine XR_a (op_sub rfl rfl) rfl rfl ?_
   refine XR_a (op_eql rfl rfl) rfl rfl ?_
   refine XR_a (op_pick_f rfl rfl) rfl rfl (XR_nil ?_)
   refine X_if rfl (fun h => ?_) (fun h => ?_)
   ·refine X_seq (X_reg (XV rfl rfl rfl (XV rfl rfl rfl ?_)))
    refine XR_a (op_convU rfl rfl rfl) rfl rfl ?_
    refine XR_as (byteV (UInt8.ofNat (numB bs (8 * (i / 8)) (i % 8 + 1)))) (by simp [byteV, IntKind.bits]) ?_
    refine XR_wa (opl_var1 rfl rfl rfl) rfl rfl rfl ?_
    rintro _ hp ⟨A, rfl, hx, hrd⟩
    have st := st.ext hx
    refine XR_wa (opl_append st 0 rfl (hrd) (rfl) (by simp [Value.one, byteV]) (by simp; omega) rfl rfl rfl rfl rfl rfl rfl) rfl rfl rfl fun v hp st => ?_
    simp only [List.set_cons_zero, List.set_cons_succ] at st
    refine XA rfl rfl rfl (XR_nil (X_seq (X_reg (XA rfl rfl rfl (XR_nil (X_reg (XA rfl rfl rfl (XR_nil (X_blk ?_)))))))))
    refine X_reg (XV rfl rfl rfl ?_)
    first | refine XR_a (op_addN (n := 1) rfl rfl (by simp only [inK]; omega)) rfl rfl ?_ | refine XR_a (op_addI rfl rfl (by simp only [inK]; omega)) rfl rfl ?_ | refine XR_a (op_add rfl rfl) rfl rfl ?_
    refine XA rfl rfl rfl (XR_nil ?_)
    have hlast : numB bs (8 * (i / 8)) 8 = numB bs (8 * (i / 8)) (i % 8 + 1) := by
     by_cases h7 : i % 8 = 7
     ·rw [h7]
     ·exact numB_cut bs _ _ _ (by omega) (by omega)
    have hlt8 : i / 8 < (pack bs).length := by omega
    have htk : (pack bs).take (i / 8 + 1) = (pack bs).take (i / 8) ++ [UInt8.ofNat (numB bs (8 * (i / 8)) (i % 8 + 1))] := by
     rw [List.take_succ_eq_append_getElem hlt8, hpg hlt8, hlast]
    rw [← List.map_singleton (f := byteV), ← List.map_append, ← htk] at st
    refine X_again (i + 1, v, 0, 1) (.cons rfl (.cons rfl (.cons rfl (.cons rfl (.cons rfl (.nil _)))))) ⟨?_, by simp only; omega, fun hh => ?_⟩ (by simp only; omega)
    ·simp only
     rw [show (if i + 1 = m then (m + 7) / 8 else (i + 1) / 8) = i / 8 + 1 by split <;> omega]
     exact st
    ·simp only at hh ⊢
     rw [show (i + 1) % 8 = 0 by omega, numB_zero]; exact ⟨rfl, rfl⟩
   ·refine X_skip (X_blk (X_reg (XV rfl rfl rfl ?_)))
    first | refine XR_a (op_addN (n := 1) rfl rfl (by simp only [inK]; omega)) rfl rfl ?_ | refine XR_a (op_addI rfl rfl (by simp only [inK]; omega)) rfl rfl ?_ | refine XR_a (op_add rfl rfl) rfl rfl ?_
    refine XA rfl rfl rfl (XR_nil ?_)
    refine X_again (i + 1, v, numB bs (8 * (i / 8)) (i % 8 + 1), 2 ^ (i % 8 + 1)) (.cons rfl (.cons rfl (.cons rfl (.cons rfl (.cons rfl (.nil _)))))) ⟨?_, by simp only; omega, fun hh => ?_⟩ (by simp only; omega)
    ·simp only
     rw [if_neg (by omega), show (i + 1) / 8 = i / 8 by omega]
     exact st
    ·simp only at hh ⊢
     rw [show (i + 1) / 8 = i / 8 by omega, show (i + 1) % 8 = i % 8 + 1 by omega]; exact ⟨rfl, rfl⟩
 ·refine X_exit rfl (X_seq (X_reg (XV rfl rfl rfl (XA rfl rfl rfl (XR_nil ?_)))))
  refine X_ret (.cons (.tmp rfl) .nil) ?_
  obtain rfl : i = m := by omega
  rw [if_pos rfl, List.take_of_length_le (by omega)] at st
  exact st
end Go.Bn
end

section
set_option linter.unusedVariables false
set_option linter.unusedSimpArgs false
set_option maxHeartbeats 4000000
set_option maxRecDepth 20000
namespace Go.Bn
open Go Proofs
theorem same11_ref {n m c d : Nat} {A B : Option Addr} {xs ys : List Tok} {h0 : Heap} (hr : Rd h0 A (xs.flatMap tokV)) (hl : xs.length = n) (hs : Rd h0 B (ys.flatMap tokV)) (hm : ys.length = m) (hn : n ≤ 9223372036854775807) (hmn : m ≤ 9223372036854775807) :
  Ret Try.prog 22 [.slice A n c, .slice B m d] h0 fun v h' => v = .bool (decide (xs = ys)) ∧ h0 = h' := by
 refine ret_of_X Try.func22 rfl rfl fun w0 hw0 => ?_
 simp only [argE, Nat.zero_add, Nat.reduceAdd]
 refine X_seq (X_reg (XA rfl rfl rfl (XR_nil (X_seq (X_seq (X_reg (XV rfl rfl rfl ?_)))))))
 refine XR_a (op_len rfl rfl rfl) rfl rfl ?_
 refine XV rfl rfl rfl ?_
 refine XR_a (op_len rfl rfl rfl) rfl rfl ?_
 refine XR_a (op_neq rfl rfl) rfl rfl ?_
 refine XR_nil ?_
 refine X_if rfl (fun h => ?_) (fun h => ?_)
 ·refine X_seq (X_reg (XA rfl rfl rfl (XR_nil ?_)))
  refine X_ret (.cons (.tmp rfl) .nil) ?_
  exact ⟨congrArg Value.bool (decide_eq_false (fun hh => by subst hh; omega)).symm, rfl⟩
 ·refine X_skip (X_seq (X_seq (X_reg (XA rfl rfl rfl (XR_nil (X_block ?_))))))
  refine X_loop (fun i => n - i) (fun i => [(0, .slice A n c), (1, .slice B m d), (5, nV i)])
   (fun (i : Nat) hp => h0 = hp ∧ i ≤ n ∧ xs.take i = ys.take i)
   0 (.cons rfl (.cons rfl (.cons rfl (.nil _)))) ⟨rfl, Nat.zero_le _, by simp⟩ ?_
  rintro i hp ⟨rfl, hi, heq⟩
  have hmn2 : n = m := by omega
  refine X_seq (X_seq (X_reg (XV rfl rfl rfl (XV rfl rfl rfl ?_))))
  refine XR_a (op_len rfl rfl rfl) rfl rfl ?_
  refine XR_a (op_lss rfl rfl) rfl rfl ?_
  refine XR_nil ?_
  refine X_if rfl (fun h => ?_) (fun h => ?_)
  ·have hil : i < xs.length := by omega
   have hil2 : i < ys.length := by omega
   obtain ⟨g1, o1, rfl, hc1⟩ := Rd.flat tokV 3 hr (fun _ => rfl) (by omega) (by omega)
   obtain ⟨g2, o2, rfl, hc2⟩ := Rd.flat tokV 3 hs (fun _ => rfl) (by omega) (by omega)
   have hcx := hc1 i hil
   have hcy := hc2 i hil2
   obtain ⟨x, hx⟩ : ∃ x, xs[i] = x := ⟨_, rfl⟩
   obtain ⟨y, hy⟩ : ∃ y, ys[i] = y := ⟨_, rfl⟩
   rw [hx] at hcx
   rw [hy] at hcy
   refine X_skip (X_seq (X_block (X_seq ?_)))
   refine X_draw byKind (by kernel_rfl) (by kernel_rfl) ?_
   refine XV rfl rfl rfl (XV rfl rfl rfl ?_)
   refine XR_a (op_index (i := i) rfl rfl rfl (by omega)) rfl rfl ?_
   refine XR_a (op_ldA (vs := tokV x) hcx rfl rfl rfl rfl) rfl rfl ?_
   refine XV rfl rfl rfl (XV rfl rfl rfl ?_)
   refine XR_a (op_index (i := i) rfl rfl rfl (by omega)) rfl rfl ?_
   refine XR_a (op_ldA (vs := tokV y) hcy rfl rfl rfl rfl) rfl rfl ?_
   refine XR_a (op_neqH rfl rfl (neq_flat (ks := [.i .u8, .i .i64, .i .i64]) (by kernel_rfl) (by kernel_rfl) rfl rfl) (by kernel_rfl)) rfl rfl ?_
   refine XR_as (.bool (decide (x ≠ y))) (congrArg Value.bool (by rw [eqL_tok]; by_cases hxy : x = y <;> simp [hxy])) ?_
   refine XR_nil ?_
   refine X_if rfl (fun h => ?_) (fun h => ?_)
   ·refine X_seq (X_reg (XA rfl rfl rfl (XR_nil ?_)))
    refine X_ret (.cons (.tmp rfl) .nil) ?_
    exact ⟨congrArg Value.bool (decide_eq_false (fun hh => by subst hh; exact h (hx.symm.trans hy))).symm, rfl⟩
   ·refine X_skip (X_blk (X_reg (XV rfl rfl rfl ?_)))
    first | refine XR_a (op_addN (n := 1) rfl rfl (by simp only [inK]; omega)) rfl rfl ?_ | refine XR_a (op_addI rfl rfl (by simp only [inK]; omega)) rfl rfl ?_ | refine XR_a (op_add rfl rfl) rfl rfl ?_
    refine XA rfl rfl rfl (XR_nil ?_)
    have hxy : x = y := Decidable.not_not.1 h
    exact X_again (i + 1) (.cons rfl (.cons rfl (.cons rfl (.nil _)))) ⟨rfl, by omega, by rw [List.take_succ_eq_append_getElem hil, List.take_succ_eq_append_getElem hil2, heq, hx, hy, hxy]⟩ (by omega)
  ·refine X_exit rfl (X_seq (X_reg (XA rfl rfl rfl (XR_nil ?_))))
   refine X_ret (.cons (.tmp rfl) .nil) ?_
   rw [List.take_of_length_le (by omega), List.take_of_length_le (by omega)] at heq
   exact ⟨congrArg Value.bool (decide_eq_true heq).symm, rfl⟩
end Go.Bn
end

section
namespace Go.Bn
open Go Proofs
theorem goB_short {la lb : List Nat} (oka : lensOK la) (okb : lensOK lb) (h273 : la.length = 273) (h30 : lb.length = 30) (Z : List Bool) {most : Int} : ∀ (ts : List Tok), (∀ t ∈ ts, t.right ∧ (0 ≤ t.byte ∧ t.byte < 256) ∧ la.getD (splitY t).a.num.toNat 0 ≠ 0 ∧ ((splitY t).m = true → lb.getD (splitY t).b.num.toNat 0 ≠ 0)) → ∀ (f sz : Nat) (acc : List Tok) (Q : List Bool), ts.length < f → distOK sz ts → (sz : Int) ≤ most → most < ((sz + sizeT ts : Nat) : Int) →
  goB la lb (Q ++ ((ts.map splitY).flatMap (syB la lb) ++ Z)) most f Q.length sz acc = ([], 0, 0, 5)
 | [], _, f, sz, acc, Q, hf, _, h1, h2 => by simp [sizeT] at h2; omega
 | t :: ts, h, f, sz, acc, Q, hf, hd, hm1, hm => by
  obtain ⟨g, rfl⟩ : ∃ g, f = g + 1 := ⟨f - 1, by simp at hf; omega⟩
  obtain ⟨h1, h2, h3, h4⟩ := h t List.mem_cons_self
  obtain ⟨d1, d2⟩ := hd
  have hst : sizeT (t :: ts) = t.size + sizeT ts := by simp [sizeT]
  rw [hst] at hm
  rw [List.map_cons, List.flatMap_cons, List.append_assoc]
  have hn := nextT_back oka okb h273 h30 h1 h2 h3 h4 Q ((ts.map splitY).flatMap (syB la lb) ++ Z)
  rw [goB, hn]
  simp only
  rw [if_neg (by simp), if_neg (by omega)]
  split
  ·rfl
  ·have ih := goB_short oka okb h273 h30 Z (most := most) ts (fun x hx => h x (List.mem_cons_of_mem _ hx)) g (sz + t.size) (acc ++ [t]) (Q ++ syB la lb (splitY t)) (by simp at hf; omega) d2 (by omega) (by omega)
   rw [List.append_assoc, List.length_append] at ih
   exact ih
theorem blockT_short {ts : List Tok} (hR : rightL ts) (hby : ∀ t ∈ ts, 0 ≤ t.byte ∧ t.byte < 256) (hd : distOK 0 ts) {most : Int} (h0 : 0 ≤ most) (hm : most < (sizeT ts : Int)) (Z : List Bool) :
  blockT (blockB (ts.map splitY) ++ Z) most = ([], 0, 0, 5) := by
 obtain ⟨ys, hys⟩ : ∃ ys, ts.map splitY = ys := ⟨_, rfl⟩
 have hY : ∀ y ∈ ys, 0 ≤ y.a.num ∧ y.a.num < 273 ∧ 0 ≤ y.b.num ∧ y.b.num < 30 := fun y hy => by
  rw [← hys] at hy
  obtain ⟨t, ht, rfl⟩ := List.mem_map.1 hy
  obtain ⟨_, h1, h2, _, h3, h4⟩ := join_split (hR.2 t ht) (hby t ht)
  exact ⟨h1, h2, h3, h4⟩
 have oka := lA_ok ys
 have okb := lB_ok (ys := ys) (fun y hy => by have := hY y hy; omega)
 have hla := lA_len ys
 have hlb := lB_len ys
 have hT : ∀ t ∈ ts, t.right ∧ (0 ≤ t.byte ∧ t.byte < 256) ∧ (lA ys).getD (splitY t).a.num.toNat 0 ≠ 0 ∧ ((splitY t).m = true → (lB ys).getD (splitY t).b.num.toNat 0 ≠ 0) := fun t ht => by
  have hm : splitY t ∈ ys := by rw [← hys]; exact List.mem_map_of_mem ht
  obtain ⟨h1, h2, h3, h4⟩ := hY _ hm
  exact ⟨hR.2 t ht, hby t ht, lA_pos hm (by omega) (by omega), lB_pos hm (by omega) (by omega)⟩
 rw [hys]
 obtain ⟨la, hA⟩ : ∃ x, lA ys = x := ⟨_, rfl⟩
 obtain ⟨lb, hB⟩ : ∃ x, lB ys = x := ⟨_, rfl⟩
 have hbl : blockB ys = putR la ++ putR lb ++ ys.flatMap (syB la lb) ++ codeBits (val la 256) (lenAt la 256) := by unfold blockB; rw [hA, hB]
 rw [hA] at oka hla hT
 rw [hB] at okb hlb hT
 obtain ⟨Y, hYe⟩ : ∃ Y, codeBits (val la 256) (lenAt la 256) ++ Z = Y := ⟨_, rfl⟩
 obtain ⟨S, hS⟩ : ∃ S, blockB ys ++ Z = S := ⟨_, rfl⟩
 have hS1 : S = [] ++ (putR la ++ (putR lb ++ (ys.flatMap (syB la lb) ++ Y))) := by rw [← hS, hbl, ← hYe]; simp
 have hS2 : S = putR la ++ (putR lb ++ (ys.flatMap (syB la lb) ++ Y)) := by rw [hS1]; rfl
 have hS3 : S = (putR la ++ putR lb) ++ (ys.flatMap (syB la lb) ++ Y) := by rw [hS2]; simp
 have t1 := takeR_putQ oka.2.2.1 oka.1 oka.2.1 [] (putR lb ++ (ys.flatMap (syB la lb) ++ Y))
 rw [← hS1, List.length_nil, Nat.zero_add] at t1
 have t2 := takeR_putQ okb.2.2.1 okb.1 okb.2.1 (putR la) (ys.flatMap (syB la lb) ++ Y)
 rw [← hS2] at t2
 have hC : codesT S 0 = (0, la, lb, (putR la).length + (putR lb).length) := by
  unfold codesT
  rw [t1]
  simp only
  rw [t2]
  simp only
  rw [if_neg (by omega), if_neg (by omega), if_neg (by omega), if_neg (by rintro (h | h); exact h (rightC_cast oka); exact h (rightC_cast okb))]
 have hg := goB_short oka okb hla hlb Y (most := most) ts hT (S.length + 1) 0 [] (putR la ++ putR lb) (by
  have : ∀ l : List Sy, (∀ y ∈ l, 1 ≤ (syB la lb y).length) → l.length ≤ (l.flatMap (syB la lb)).length := by
   intro l
   induction l with
   | nil => intro _; simp
   | cons y l ih =>
    intro h
    have h1 := h y List.mem_cons_self
    have h2 := ih fun z hz => h z (List.mem_cons_of_mem _ hz)
    rw [List.flatMap_cons, List.length_append, List.length_cons]; omega
  have h1 := this ys fun y hy => by
   rw [← hys] at hy
   obtain ⟨t, ht, rfl⟩ := List.mem_map.1 hy
   obtain ⟨_, _, g3, _⟩ := hT t ht
   have g := hY (splitY t) (by rw [← hys]; exact List.mem_map_of_mem ht)
   unfold syB symB
   rw [List.length_append, List.length_append, codeBits_length]
   have : lenAt la (splitY t).a.num = la.getD (splitY t).a.num.toNat 0 := by unfold lenAt; rw [if_neg (by omega)]
   omega
  have hyl : ys.length = ts.length := by rw [← hys, List.length_map]
  rw [hS3]
  simp only [List.length_append]
  omega) hd h0 (by omega)
 rw [hys, ← hS3] at hg
 rw [hS]
 unfold blockT
 rw [hC]
 simp only
 rw [if_neg (by omega), ← List.length_append, hg]
end Go.Bn
end
