/- Packed texts of a claim: what its theorem uses, joined. -/
import Derived.Test.YtoodeecmplpndaaGreatPkCdc14
section
set_option linter.unusedVariables false
set_option linter.unusedSimpArgs false
set_option maxHeartbeats 4000000
set_option maxRecDepth 20000
namespace Go.Bn
open Go Proofs
theorem brows_spec {B n c : Nat} {A : Option Addr} {ts : List Tok} {F : List Res} {h0 : Heap} (st0 : St B h0 h0 F) (hrB : ∀ h', Low B h0 h' → Rd h' A (ts.flatMap tokV)) (hl : ts.length = n) (hn : n ≤ 17592186044416) (hby : ∀ t ∈ ts, 0 ≤ t.byte ∧ t.byte < 256) :
  Ret Tryz.prog 41 [.slice A n c] h0 fun v h' => ∃ w, v = retVal [w, .bool (decide (rightL ts))] ∧ (rightL ts → St B h0 h' (row 94 7 w ((ts.map splitY).flatMap syV) :: F)) ∧ (¬ rightL ts → St B h0 h' F) := by
 refine ret_of_X Tryz.func41 rfl rfl fun w0 hw0 => ?_
 simp only [argE, Nat.zero_add, Nat.reduceAdd]
 have st := st0
 refine X_seq (X_reg (XA rfl rfl rfl (XA rfl rfl rfl (XR_nil ?_))))
 refine X_scope rfl (fun _ _ _ hh => hh) ?_
 refine X_seq (X_seq (X_reg (XV rfl rfl rfl ?_)))
 refine XR_a (op_len rfl rfl rfl) rfl rfl ?_
 refine XR_a (op_gtr rfl rfl) rfl rfl ?_
 refine XR_nil ?_
 refine X_if rfl (fun h => ?_) (fun h => ?_)
 ·refine X_seq (X_reg (XA rfl rfl rfl (XA rfl rfl rfl (XR_nil ?_))))
  refine X_ret (.cons (.tmp rfl) (.cons (.tmp rfl) .nil)) ?_
  have hno : ¬ rightL ts := fun hh => by have := hh.1; omega
  rw [decide_eq_false hno]
  exact ⟨_, rfl, fun hh => absurd hh hno, fun _ => st⟩
 ·refine X_skip (X_seq (X_reg (XA rfl rfl rfl (XR_nil (X_seq (X_reg (XA rfl rfl rfl (XR_nil (X_seq ?_)))))))))
  refine X_label ?_
  refine X_seq (X_seq (X_reg (XV rfl rfl rfl ?_)))
  refine XR_a (op_len rfl rfl rfl) rfl rfl ?_
  refine XV rfl rfl rfl (XR_nil (X_block ?_))
  have st := st0.nilrow 94 7
  refine X_loop (fun s => n - s.1) (fun s => [(4, s.2), (5, .bool true), (12, .slice A n c), (13, nV n), (14, nV s.1)])
   (fun (s : Nat × Value) hp => s.1 ≤ n ∧ (∀ t ∈ ts.take s.1, t.right) ∧ St B h0 hp (row 94 7 s.2 (((ts.take s.1).map splitY).flatMap syV) :: F))
   (0, _) (.cons rfl (.cons rfl (.cons rfl (.cons rfl (.cons rfl (.nil _)))))) ⟨Nat.zero_le _, by simp, st⟩ ?_
  clear st
  rintro ⟨i, v⟩ hp ⟨hi, hri, st⟩
  simp only at hi hri st ⊢
  refine X_seq (X_reg ?_)
  refine XR_a (op_lss rfl rfl) rfl rfl ?_
  refine XR_nil (X_seq ?_)
  refine X_if rfl (fun h => ?_) (fun h => ?_)
  ·have hil : i < ts.length := by omega
   obtain ⟨t, ht⟩ : ∃ t, ts[i] = t := ⟨_, rfl⟩
   have htm : t ∈ ts := ht ▸ List.getElem_mem hil
   obtain ⟨g1, o1, rfl, hc1⟩ := Rd.flat tokV 3 (hrB hp st.low) (fun _ => rfl) (by omega) (by omega)
   have hcx := hc1 i hil
   rw [ht] at hcx
   obtain ⟨A4, n4, c4, rfl, hl4, _⟩ := st.row 0 rfl
   rw [flat_length _ 7 (fun _ => rfl), List.length_map, List.length_take] at hl4
   have htk : ts.take (i + 1) = ts.take i ++ [t] := by rw [List.take_succ_eq_append_getElem hil, ht]
   refine X_skip (X_seq (X_block (X_seq (X_reg ?_))))
   refine XR_a (op_index (i := i) rfl rfl rfl (by omega)) rfl rfl ?_
   refine XR_a (op_ldA (vs := tokV t) hcx rfl rfl rfl rfl) rfl rfl ?_
   refine XR_wa (opl_new rfl) rfl rfl rfl ?_
   rintro _ hp1 ⟨p7, rfl, hnew⟩
   replace st := st.new hnew
   refine XR_wn (opl_store_whole (us := tokV t) st 0 rfl rfl rfl rfl rfl (tokV_one _) rfl) rfl rfl fun _ hp st => ?_
   simp only [List.set_cons_zero, List.set_cons_succ] at st
   refine XR_nil (X_seq (X_reg ?_))
   refine XR_wa (opl_new rfl) rfl rfl rfl ?_
   rintro _ hp2 ⟨p8, rfl, hnew⟩
   replace st := st.new hnew
   refine XR_nil (X_seq (X_seq (X_reg ?_)))
   refine XR_a (op_ldA (vs := tokV t) (st.cells 1 rfl) rfl rfl rfl rfl) rfl rfl ?_
   refine XR_wa (opl_call (ssplit_spec (hby t htm) _) rfl (by kernel_rfl)) rfl rfl rfl ?_
   rintro _ hp4 ⟨rfl, hx4⟩
   replace st := st.ext hx4
   refine XV rfl rfl rfl ?_
   by_cases hrt : t.right
   ·rw [splitT_yes hrt]
    refine XR_a (op_extract rfl rfl) rfl rfl (XR_a (op_extract rfl rfl) rfl rfl ?_)
    refine XR_wn (opl_store_whole (us := syV (splitY t)) st 0 rfl rfl rfl rfl rfl (syV_one _) rfl) rfl rfl fun _ hp st => ?_
    simp only [List.set_cons_zero, List.set_cons_succ] at st
    refine XA rfl rfl rfl (XR_nil (X_seq (X_reg (XV rfl rfl rfl ?_))))
    first | refine XR_a (op_notd rfl) rfl rfl ?_ | refine XR_a (op_not rfl) rfl rfl ?_
    refine XR_as (.bool false) rfl ?_
    refine XR_nil (X_else rfl (X_skip (X_reg (XV rfl rfl rfl ?_))))
    refine XR_a (op_ldA (vs := syV (splitY t)) (st.cells 0 rfl) rfl rfl rfl rfl) rfl rfl ?_
    refine XR_wa (opl_varA (us := syV (splitY t)) rfl rfl rfl rfl (by kernel_rfl)) rfl rfl rfl ?_
    rintro _ hp ⟨A8, rfl, hx9, hrd⟩
    replace st := st.ext hx9
    refine XR_wa (opl_append st 2 rfl (hrd) (rfl) (syV_one _) (by rw [flat_length _ 7 (fun _ => rfl)]; simp; omega) rfl rfl rfl rfl rfl rfl rfl) rfl rfl rfl fun v hp st => ?_
    simp only [List.set_cons_zero, List.set_cons_succ] at st
    have e2 : ((ts.take i).map splitY).flatMap syV ++ syV (splitY t) = ((ts.take (i + 1)).map splitY).flatMap syV := by rw [htk, List.map_append, List.flatMap_append]; simp
    rw [e2] at st
    refine XA rfl rfl rfl (XR_nil (X_blk (X_reg ?_)))
    first | refine XR_a (op_addN (n := 1) rfl rfl (by simp only [inK]; omega)) rfl rfl ?_ | refine XR_a (op_addI rfl rfl (by simp only [inK]; omega)) rfl rfl ?_ | refine XR_a (op_add rfl rfl) rfl rfl ?_
    refine XV rfl rfl rfl (XR_nil ?_)
    exact X_again (i + 1, _) (.cons rfl (.cons rfl (.cons rfl (.cons rfl (.cons rfl (.nil _)))))) ⟨by simp only; omega, fun x hx => by simp only [htk] at hx; rcases List.mem_append.1 hx with hx | hx; exact hri x hx; rw [List.mem_singleton] at hx; rw [hx]; exact hrt, st.tail.tail⟩ (by simp only; omega)
   ·rw [splitT_no hrt]
    refine XR_a (op_extract rfl rfl) rfl rfl (XR_a (op_extract rfl rfl) rfl rfl ?_)
    refine XR_wn (opl_store_whole (us := syV Sy.nil) st 0 rfl rfl rfl rfl rfl (syV_one _) rfl) rfl rfl fun _ hp st => ?_
    simp only [List.set_cons_zero, List.set_cons_succ] at st
    refine XA rfl rfl rfl (XR_nil (X_seq (X_reg (XV rfl rfl rfl ?_))))
    first | refine XR_a (op_notd rfl) rfl rfl ?_ | refine XR_a (op_not rfl) rfl rfl ?_
    refine XR_as (.bool true) rfl ?_
    refine XR_nil (X_then rfl (X_exit rfl (X_seq (X_reg (XV rfl rfl rfl (XV rfl rfl rfl (XA rfl rfl rfl (XA rfl rfl rfl (XR_nil ?_)))))))))
    refine X_ret (.cons (.tmp rfl) (.cons (.tmp rfl) .nil)) ?_
    have hno : ¬ rightL ts := fun hh => hrt (hh.2 t htm)
    rw [decide_eq_false hno]
    exact ⟨_, rfl, fun hh => absurd hh hno, fun _ => st.tail.tail.tail⟩
  ·refine X_exit rfl (X_seq (X_reg (XV rfl rfl rfl (XV rfl rfl rfl (XA rfl rfl rfl (XA rfl rfl rfl (XR_nil ?_)))))))
   refine X_ret (.cons (.tmp rfl) (.cons (.tmp rfl) .nil)) ?_
   obtain rfl : i = n := by omega
   rw [List.take_of_length_le (by omega)] at hri st
   have hyes : rightL ts := ⟨by omega, hri⟩
   rw [decide_eq_true hyes]
   exact ⟨_, rfl, fun _ => st, fun hh => absurd hyes hh⟩
theorem bweigh1_spec {B n c : Nat} {A : Option Addr} {ys : List Sy} {F : List Res} {h0 : Heap} (st0 : St B h0 h0 F) (hrB : ∀ h', Low B h0 h' → Rd h' A (ys.flatMap syV)) (hl : ys.length = n) (hn : n ≤ 65536) (hok : ∀ y ∈ ys, 0 ≤ y.a.num ∧ y.a.num < 273 ∧ 0 ≤ y.b.num ∧ y.b.num < 30) :
  Ret Tryz.prog 42 [.slice A n c] h0 fun v h' => ∃ w1 w2, v = retVal [w1, w2] ∧ St B h0 h' (row 3 1 w1 ((firstW ys).map nV) :: row 3 1 w2 ((secondW ys).map nV) :: F) := by
 refine ret_of_X Tryz.func42 rfl rfl fun w0 hw0 => ?_
 simp only [argE, Nat.zero_add, Nat.reduceAdd]
 have st := st0
 refine X_seq (X_reg (XA rfl rfl rfl (XA rfl rfl rfl (XR_nil (X_seq ?_)))))
 refine X_draw_two byKind [] 0 [2, 1, 3] 1 [0, 2, 3] (by kernel_rfl) (by kernel_rfl) rfl rfl rfl ?_
 refine XR_nil ?_
 refine X_alt (σ := Value × Value) (fun s => [(0, .slice A n c), (2, s.1), (3, s.2)]) (fun s hp => St B h0 hp (row 3 1 s.1 (List.replicate 273 (iV 0)) :: row 3 1 s.2 (List.replicate 30 (iV 0)) :: F)) ?_ ?_ ?_
 ·refine XR_ga (opl_mk (by decide) rfl rfl rfl) rfl rfl rfl (fun _ _ e => e.1) ?_
  rintro v hp hnew
  have st := st.new hnew
  refine XA rfl rfl rfl ?_
  refine XR_ga (opl_mk (by decide) rfl rfl rfl) rfl rfl rfl (fun _ _ e => e.1) ?_
  rintro v hp hnew
  have st := st.new hnew
  refine XA rfl rfl rfl (XR_nil ?_)
  exact X_meet (_, _) (.cons rfl (.cons rfl (.cons rfl (.nil _)))) (St.reF [_, _] 2 st [1, 0] (by decide))
 ·refine XR_ga (opl_mk (by decide) rfl rfl rfl) rfl rfl rfl (fun _ _ e => e.1) ?_
  rintro v hp hnew
  have st := st.new hnew
  refine XR_ga (opl_mk (by decide) rfl rfl rfl) rfl rfl rfl (fun _ _ e => e.1) ?_
  rintro v hp hnew
  have st := st.new hnew
  refine XA rfl rfl rfl (XA rfl rfl rfl (XR_nil ?_))
  exact X_meet (_, _) (.cons rfl (.cons rfl (.cons rfl (.nil _)))) st
 rintro ⟨v1, v2⟩ hp st
 simp only at st ⊢
 obtain ⟨ga, na, ca, rfl, hla, _⟩ := st.row0 0 rfl (by rw [List.length_replicate]; omega)
 obtain ⟨gb, nb, cb, rfl, hlb, _⟩ := st.row0 1 rfl (by rw [List.length_replicate]; omega)
 obtain rfl : na = 273 := by rw [List.length_replicate] at hla; omega
 obtain rfl : nb = 30 := by rw [List.length_replicate] at hlb; omega
 refine X_seq (X_reg (XV rfl rfl rfl ?_))
 refine XR_a (op_index1 (i := 256) rfl rfl rfl (by omega)) rfl rfl ?_
 refine XR_wn (opl_store_row (o := 0) (i := 256) (v := nV 1) st 0 rfl (congrArg (fun x => some (Value.pointer (some ⟨ga, x, none⟩))) (by omega)) rfl (by simp) rfl rfl) rfl rfl fun _ hp st => ?_
 simp only [List.set_cons_zero, List.set_cons_succ] at st
 rw [show (List.replicate 273 (iV 0)).set 256 (nV 1) = (foldW (ys.take 0)).1.map nV by show _ = ((List.replicate 273 0).set 256 1).map nV; rw [List.map_set, List.map_replicate]; rfl, show List.replicate 30 (iV 0) = (foldW (ys.take 0)).2.1.map nV by show _ = (List.replicate 30 0).map nV; rw [List.map_replicate]; rfl] at st
 refine XR_nil (X_seq (X_reg (XA rfl rfl rfl (XR_nil (X_seq (X_seq (X_reg (XV rfl rfl rfl ?_))))))))
 refine XR_a (op_len rfl rfl rfl) rfl rfl ?_
 refine XV rfl rfl rfl (XR_nil (X_block ?_))
 refine X_loop (fun i => n - i) (fun i => [(2, .slice (some ⟨ga, 0, none⟩) 273 ca), (3, .slice (some ⟨gb, 0, none⟩) 30 cb), (4, nV (foldW (ys.take i)).2.2), (11, .slice A n c), (12, nV n), (13, nV i)])
  (fun (i : Nat) hp => i ≤ n ∧ St B h0 hp (row 3 1 (.slice (some ⟨ga, 0, none⟩) 273 ca) ((foldW (ys.take i)).1.map nV) :: row 3 1 (.slice (some ⟨gb, 0, none⟩) 30 cb) ((foldW (ys.take i)).2.1.map nV) :: F))
  0 (.cons rfl (.cons rfl (.cons rfl (.cons rfl (.cons rfl (.cons rfl (.nil _))))))) ⟨Nat.zero_le _, st⟩ ?_
 clear st
 rintro i hp ⟨hi, st⟩
 obtain ⟨W, hW⟩ : ∃ W, foldW (ys.take i) = W := ⟨_, rfl⟩
 have hWk := foldW_ok (ys.take i)
 rw [hW] at st hWk ⊢
 obtain ⟨k1, k2, k3, k4, k5⟩ := hWk
 rw [List.length_take] at k3 k4 k5
 refine X_seq (X_reg ?_)
 refine XR_a (op_lss rfl rfl) rfl rfl ?_
 refine XR_nil (X_seq ?_)
 refine X_if rfl (fun h => ?_) (fun h => ?_)
 ·have hil : i < ys.length := by omega
  obtain ⟨y, hy⟩ : ∃ y, ys[i] = y := ⟨_, rfl⟩
  have hyo := hok y (hy ▸ List.getElem_mem hil)
  obtain ⟨gy, oy, rfl, hcy⟩ := Rd.flat syV 7 (hrB hp st.low) (fun _ => rfl) (by omega) (by omega)
  have hcx := hcy i hil
  rw [hy] at hcx
  have hsn : foldW (ys.take (i + 1)) = stepW W y := by rw [List.take_succ_eq_append_getElem hil, hy, foldW_snoc, hW]
  obtain ⟨ya, hya⟩ : ∃ a : Nat, y.a.num = a := ⟨y.a.num.toNat, by omega⟩
  obtain ⟨yb, hyb⟩ : ∃ a : Nat, y.b.num = a := ⟨y.b.num.toNat, by omega⟩
  have hga : W.1[ya]? = some (W.1.getD ya 0) := by rw [List.getD_eq_getElem?_getD, List.getElem?_eq_getElem (by omega)]; rfl
  have hgb : W.2.1[yb]? = some (W.2.1.getD yb 0) := by rw [List.getD_eq_getElem?_getD, List.getElem?_eq_getElem (by omega)]; rfl
  have hma := le_sum (List.mem_of_getElem? hga)
  have hmb := le_sum (List.mem_of_getElem? hgb)
  refine X_skip (X_seq (X_block (X_seq (X_reg ?_))))
  refine XR_a (op_index (i := i) rfl rfl rfl (by omega)) rfl rfl ?_
  refine XR_a (op_ldA (vs := syV y) hcx rfl rfl rfl rfl) rfl rfl ?_
  refine XR_wa (opl_new rfl) rfl rfl rfl ?_
  rintro _ hp1 ⟨p6, rfl, hnew⟩
  replace st := st.new hnew
  refine XR_wn (opl_store_whole (us := syV y) st 0 rfl rfl rfl rfl rfl (syV_one _) rfl) rfl rfl fun _ hp st => ?_
  simp only [List.set_cons_zero, List.set_cons_succ] at st
  obtain ⟨_, _, he1, hc1⟩ := (st.rdS 1 rfl).2.at_ (by rw [List.length_map]; omega)
  cases he1
  have hov := hc1 ya (nV (W.1.getD ya 0)) (by rw [List.getElem?_map, hga]; rfl)
  refine XR_nil (X_seq (X_reg (XV rfl rfl rfl ?_)))
  first | refine XR_a (op_field0 rfl rfl) rfl rfl ?_ | refine XR_a (op_fieldn rfl rfl) rfl rfl ?_
  first | refine XR_a (op_field0 rfl rfl) rfl rfl ?_ | refine XR_a (op_fieldn rfl rfl) rfl rfl ?_
  refine XR_a (op_ld (st.cell 0 (i := 0) rfl rfl) rfl rfl rfl) rfl rfl ?_
  refine XR_as (nV ya) (congrArg (Value.int .i64) hya) ?_
  refine XR_a (op_index1 (i := ya) rfl rfl rfl (by omega)) rfl rfl ?_
  refine XR_a (op_ld (hov) rfl rfl rfl) rfl rfl ?_
  first | refine XR_a (op_addN (n := 1) rfl rfl (by simp only [inK]; omega)) rfl rfl ?_ | refine XR_a (op_addI rfl rfl (by simp only [inK]; omega)) rfl rfl ?_ | refine XR_a (op_add rfl rfl) rfl rfl ?_
  refine XR_a (op_index1 (i := ya) rfl rfl rfl (by omega)) rfl rfl ?_
  refine XR_wn (opl_store_row (o := 0) (i := ya) (v := nV (W.1.getD ya 0 + 1)) st 1 rfl (congrArg (fun x => some (Value.pointer (some ⟨ga, x, none⟩))) (by omega)) rfl (by simp; omega) rfl rfl) rfl rfl fun _ hp st => ?_
  simp only [List.set_cons_zero, List.set_cons_succ] at st
  rw [map_set_nV] at st
  refine XR_nil (X_seq (X_reg ?_))
  first | refine XR_a (op_field0 rfl rfl) rfl rfl ?_ | refine XR_a (op_fieldn rfl rfl) rfl rfl ?_
  refine XR_a (op_ld (st.cell 0 (i := 6) rfl rfl) rfl rfl rfl) rfl rfl ?_
  refine XR_as (.bool (decide (y.m = true))) (congrArg Value.bool (by cases y.m <;> rfl)) ?_
  refine XR_nil ?_
  refine X_if rfl (fun h => ?_) (fun h => ?_)
  ·have hs2 : foldW (ys.take (i + 1)) = (W.1.set ya (W.1.getD ya 0 + 1), W.2.1.set yb (W.2.1.getD yb 0 + 1), W.2.2 + 1) := by
    rw [hsn]; simp only [stepW, addAt, hya, hyb, Int.toNat_natCast]; rw [if_pos h, if_pos h]
   obtain ⟨_, _, he2, hc2⟩ := (st.rdS 2 rfl).2.at_ (by rw [List.length_map]; omega)
   cases he2
   have hov2 := hc2 yb (nV (W.2.1.getD yb 0)) (by rw [List.getElem?_map, hgb]; rfl)
   refine X_seq (X_reg (XV rfl rfl rfl ?_))
   first | refine XR_a (op_addN (n := 1) rfl rfl (by simp only [inK]; omega)) rfl rfl ?_ | refine XR_a (op_addI rfl rfl (by simp only [inK]; omega)) rfl rfl ?_ | refine XR_a (op_add rfl rfl) rfl rfl ?_
   refine XA rfl rfl rfl (XR_nil (X_reg (XV rfl rfl rfl ?_)))
   first | refine XR_a (op_field0 rfl rfl) rfl rfl ?_ | refine XR_a (op_fieldn rfl rfl) rfl rfl ?_
   first | refine XR_a (op_field0 rfl rfl) rfl rfl ?_ | refine XR_a (op_fieldn rfl rfl) rfl rfl ?_
   refine XR_a (op_ld (st.cell 0 (i := 3) rfl rfl) rfl rfl rfl) rfl rfl ?_
   refine XR_as (nV yb) (congrArg (Value.int .i64) hyb) ?_
   refine XR_a (op_index1 (i := yb) rfl rfl rfl (by omega)) rfl rfl ?_
   refine XR_a (op_ld (hov2) rfl rfl rfl) rfl rfl ?_
   first | refine XR_a (op_addN (n := 1) rfl rfl (by simp only [inK]; omega)) rfl rfl ?_ | refine XR_a (op_addI rfl rfl (by simp only [inK]; omega)) rfl rfl ?_ | refine XR_a (op_add rfl rfl) rfl rfl ?_
   refine XR_a (op_index1 (i := yb) rfl rfl rfl (by omega)) rfl rfl ?_
   refine XR_wn (opl_store_row (o := 0) (i := yb) (v := nV (W.2.1.getD yb 0 + 1)) st 2 rfl (congrArg (fun x => some (Value.pointer (some ⟨gb, x, none⟩))) (by omega)) rfl (by simp; omega) rfl rfl) rfl rfl fun _ hp st => ?_
   simp only [List.set_cons_zero, List.set_cons_succ] at st
   rw [map_set_nV] at st
   refine XR_nil (X_blk (X_reg ?_))
   first | refine XR_a (op_addN (n := 1) rfl rfl (by simp only [inK]; omega)) rfl rfl ?_ | refine XR_a (op_addI rfl rfl (by simp only [inK]; omega)) rfl rfl ?_ | refine XR_a (op_add rfl rfl) rfl rfl ?_
   refine XV rfl rfl rfl (XR_nil ?_)
   exact X_again (i + 1) (.cons rfl (.cons rfl (.cons (by rw [hs2]; rfl) (.cons rfl (.cons rfl (.cons rfl (.nil _))))))) ⟨by omega, by rw [hs2]; exact st.tail⟩ (by omega)
  ·have hs2 : foldW (ys.take (i + 1)) = (W.1.set ya (W.1.getD ya 0 + 1), W.2.1, W.2.2) := by
    rw [hsn]; simp only [stepW, addAt, hya, Int.toNat_natCast]; rw [if_neg h, if_neg h]
   refine X_skip (X_blk (X_reg ?_))
   first | refine XR_a (op_addN (n := 1) rfl rfl (by simp only [inK]; omega)) rfl rfl ?_ | refine XR_a (op_addI rfl rfl (by simp only [inK]; omega)) rfl rfl ?_ | refine XR_a (op_add rfl rfl) rfl rfl ?_
   refine XV rfl rfl rfl (XR_nil ?_)
   exact X_again (i + 1) (.cons rfl (.cons rfl (.cons (by rw [hs2]; rfl) (.cons rfl (.cons rfl (.cons rfl (.nil _))))))) ⟨by omega, by rw [hs2]; exact st.tail⟩ (by omega)
 ·rw [List.take_of_length_le (by omega)] at hW
  refine X_exit rfl (X_seq (X_seq (X_reg (XV rfl rfl rfl ?_))))
  refine XR_a (op_eql rfl rfl) rfl rfl ?_
  refine XR_nil ?_
  refine X_if rfl (fun h => ?_) (fun h => ?_)
  ·have hs : secondW ys = W.2.1.set 0 1 := by unfold secondW; rw [hW, if_pos (by omega)]
   refine X_reg (XV rfl rfl rfl ?_)
   refine XR_a (op_index1 (i := 0) rfl rfl rfl (by omega)) rfl rfl ?_
   refine XR_wn (opl_store_row (o := 0) (i := 0) (v := nV 1) st 1 rfl (congrArg (fun x => some (Value.pointer (some ⟨gb, x, none⟩))) (by omega)) rfl (by simp; omega) rfl rfl) rfl rfl fun _ hp st => ?_
   simp only [List.set_cons_zero, List.set_cons_succ] at st
   rw [map_set_nV] at st
   refine XR_nil (X_seq (X_reg (XV rfl rfl rfl (XV rfl rfl rfl (XA rfl rfl rfl (XA rfl rfl rfl (XR_nil ?_)))))))
   refine X_ret (.cons (.tmp rfl) (.cons (.tmp rfl) .nil)) ?_
   exact ⟨_, _, rfl, by rw [hs, show firstW ys = W.1 from congrArg (·.1) hW]; exact st⟩
  ·have hs : secondW ys = W.2.1 := by unfold secondW; rw [hW, if_neg (by omega)]
   refine X_skip (X_seq (X_reg (XV rfl rfl rfl (XV rfl rfl rfl (XA rfl rfl rfl (XA rfl rfl rfl (XR_nil ?_)))))))
   refine X_ret (.cons (.tmp rfl) (.cons (.tmp rfl) .nil)) ?_
   exact ⟨_, _, rfl, by rw [hs, show firstW ys = W.1 from congrArg (·.1) hW]; exact st⟩
end Go.Bn
end

section
set_option linter.unusedVariables false
set_option linter.unusedSimpArgs false
set_option maxHeartbeats 4000000
set_option maxRecDepth 20000
namespace Go.Bn
open Go Proofs
noncomputable def outAt (ws L : List Nat) : List Nat := (List.range ws.length).map fun s => lvl L ((syms ws).idxOf s)
noncomputable def outIn (ws L : List Nat) (k : Nat) : List Nat := (List.range ws.length).map fun s => lvl L ((syms ws).idxOf s) + if (syms ws).idxOf s < k then 1 else 0
theorem outAt_nil (ws : List Nat) : outAt ws [] = List.replicate ws.length 0 := by
 refine List.ext_getElem (by simp [outAt]) fun i h1 h2 => ?_
 simp [outAt, lvl]
theorem outAt_len (ws L : List Nat) : (outAt ws L).length = ws.length := by simp [outAt]
theorem outIn_zero (ws L : List Nat) : outIn ws L 0 = outAt ws L := by
 unfold outIn outAt
 refine List.map_congr_left fun s _ => ?_
 rw [if_neg (by omega), Nat.add_zero]
theorem lvl_snoc (L : List Nat) (k i : Nat) : lvl (L ++ [k]) i = lvl L i + if i < k then 1 else 0 := by
 unfold lvl
 rw [List.countP_append, List.countP_singleton]; simp
theorem outIn_done (ws L : List Nat) (k : Nat) : outIn ws L k = outAt ws (L ++ [k]) := by
 unfold outIn outAt
 exact List.map_congr_left fun s _ => (lvl_snoc L k _).symm
theorem outIn_len (ws L : List Nat) (k : Nat) : (outIn ws L k).length = ws.length := by simp [outIn]
theorem outIn_get {ws L : List Nat} {k s : Nat} (hs : s < ws.length) : (outIn ws L k)[s]? = some (lvl L ((syms ws).idxOf s) + if (syms ws).idxOf s < k then 1 else 0) := by
 unfold outIn; simp [hs]
theorem outIn_set {ws L : List Nat} {k : Nat} (hk : k < (syms ws).length) : (outIn ws L k).set ((syms ws).getD k 0) (lvl L k + 1) = outIn ws L (k + 1) := by
 refine List.ext_getElem (by simp [outIn]) fun i h1 h2 => ?_
 have hi : i < ws.length := by simpa [outIn] using h2
 rw [List.getElem_set]
 have hx := idxOf_getD hk
 by_cases h : (syms ws).getD k 0 = i
 ·rw [if_pos h]
  simp only [outIn, List.getElem_map, List.getElem_range]
  rw [← h, hx, if_pos (by omega)]
 ·rw [if_neg h]
  simp only [outIn, List.getElem_map, List.getElem_range]
  congr 1
  have hne : (syms ws).idxOf i ≠ k := fun he => by
   have hl : (syms ws).idxOf i < (syms ws).length := by omega
   have := List.getElem_idxOf hl
   refine h ?_
   rw [getD_eq hk, ← this]
   simp only [he]
  by_cases h3 : (syms ws).idxOf i < k
  ·rw [if_pos h3, if_pos (by omega)]
  ·rw [if_neg h3, if_neg (by omega)]
theorem outAt_levW (ws : List Nat) : outAt ws (levW ws) = lensW ws := rfl
theorem lensW_zero {ws : List Nat} (h : (syms ws).length = 0) : lensW ws = List.replicate ws.length 0 := by
 rw [← outAt_nil, ← outAt_levW]
 unfold levW; rw [h]; rfl
theorem lensW_single {ws : List Nat} (h : (syms ws).length = 1) : (List.replicate ws.length 0).set ((syms ws).getD 0 0) 1 = lensW ws := by
 rw [← outAt_nil, ← outIn_zero, ← outAt_levW]
 have e := outIn_set (L := []) (show 0 < (syms ws).length by omega)
 rw [show lvl [] 0 + 1 = 1 from rfl] at e
 rw [e, outIn_done]
 unfold levW; rw [h]; rfl
def errW (li : List Int) : Int := if 320 < li.length then 5 else if boundedB 1073741824 li then 0 else 1
noncomputable def lensI (li : List Int) : List Nat := if errW li = 0 then lensW (li.map Int.toNat) else []
theorem errW_zero {li : List Int} : errW li = 0 ↔ boundedB 1073741824 li := by
 unfold errW
 split
 ·rename_i h; exact ⟨fun hh => by omega, fun hh => by have := hh.1; omega⟩
 ·split <;> simp [*]
theorem lengths_spec {n c : Nat} {A : Option Addr} {li : List Int} {h0 : Heap} (hr : Rd h0 A (li.map iV)) (hl : li.length = n) (hn : n ≤ 17592186044416) :
  Ret Tryz.prog 78 [.slice A n c] h0 fun v h' => ∃ v1, v = retVal [v1, .int .i64 (errW li)] ∧ St h0.size h0 h' [row 3 1 v1 ((lensI li).map nV)] := by
 refine ret_of_X Tryz.func78 rfl rfl fun w0 hw0 => ?_
 simp only [argE, Nat.zero_add, Nat.reduceAdd]
 refine X_seq (X_reg (XA rfl rfl rfl (XA rfl rfl rfl (XR_nil (X_seq (X_block (X_seq (X_reg (XV rfl rfl rfl ?_)))))))))
 refine XR_a (op_len rfl rfl rfl) rfl rfl ?_
 refine XR_a (op_gtr rfl rfl) rfl rfl ?_
 refine XA rfl rfl rfl (XR_nil ?_)
 refine X_if rfl (fun h => ?_) (fun h => ?_)
 ·refine X_seq (X_reg (XA rfl rfl rfl (XA rfl rfl rfl (XR_nil ?_))))
  refine X_ret (.cons (.tmp rfl) (.cons (.tmp rfl) .nil)) ?_
  have he : errW li = 5 := by unfold errW; rw [if_pos (by omega)]
  refine ⟨_, by rw [he], ?_⟩
  unfold lensI
  rw [he, if_neg (by omega)]
  exact ((St.start h0).nilrow 3 1)
 ·refine X_seq (X_reg (XV rfl rfl rfl ?_))
  refine XR_wa (opl_call (wright_spec 1073741824 hr hl hn) rfl (by kernel_rfl)) rfl rfl rfl ?_
  rintro _ hp ⟨rfl, hx⟩
  first | refine XR_a (op_notd rfl) rfl rfl ?_ | refine XR_a (op_not rfl) rfl rfl ?_
  refine XA rfl rfl rfl (XR_nil ?_)
  refine X_if rfl (fun h => ?_) (fun h => ?_)
  ·refine X_seq (X_reg (XA rfl rfl rfl (XA rfl rfl rfl (XR_nil ?_))))
   refine X_ret (.cons (.tmp rfl) (.cons (.tmp rfl) .nil)) ?_
   have he : errW li = 1 := by unfold errW; rw [if_neg (by omega), if_neg h]
   refine ⟨_, by rw [he], ?_⟩
   unfold lensI
   rw [he, if_neg (by omega)]
   exact (((St.start h0).ext hx).nilrow 3 1)
  ·have hR : boundedB 1073741824 li := Decidable.not_not.1 h
   have he0 := errW_zero.2 hR
   have hlens : lensI li = lensW (li.map Int.toNat) := by unfold lensI; rw [if_pos he0]
   rw [hlens, he0]
   have hr2 : Rd h0 A ((li.map Int.toNat).map nV) := by rw [nV_iV, toNat_map fun x hx => (hR.2 x hx).1]; exact hr
   have hwb : ∀ s, wkey (li.map Int.toNat) s ≤ 1073741824 := fun s => by
    unfold wkey
    rcases Nat.lt_or_ge s li.length with h1 | h1
    ·have := (hR.2 li[s] (List.getElem_mem h1)).2
     simp [List.getD, h1]; omega
    ·simp [List.getD, h1]
   have hn320 := hR.1
   have hlw : (li.map Int.toNat).length = n := by rw [List.length_map]; exact hl
   obtain ⟨ws, hws⟩ : ∃ ws, li.map Int.toNat = ws := ⟨_, rfl⟩
   rw [hws] at hr2 hlw hwb ⊢
   have st := (St.start h0).ext hx
   have hsl := syms_len ws
   refine X_skip (X_blk (X_seq (X_reg (XV rfl rfl rfl ?_))))
   refine XR_a (op_len rfl rfl rfl) rfl rfl ?_
   refine XR_wa (opl_mk (by omega) rfl rfl rfl) rfl rfl rfl ?_
   rintro v hp hnew
   have st := st.new hnew
   obtain ⟨Ao, no, co, rfl, _, _, _, _⟩ := st.row 0 rfl
   refine XR_wa (opl_new rfl) rfl rfl rfl ?_
   rintro _ hp ⟨p4, rfl, hnew⟩
   replace st := st.new hnew
   refine XR_wn (opl_store_pt st 0 rfl rfl rfl rfl rfl (rfl)) rfl rfl fun _ hp st => ?_
   simp only [List.set_cons_zero, List.set_cons_succ] at st
   refine XR_nil (X_seq (X_reg (XV rfl rfl rfl ?_)))
   refine XR_wa (opl_call (items_spec (hr2.ext st.low) hlw (by omega)) rfl (by kernel_rfl)) rfl rfl rfl ?_
   rintro v2 hp2 st2
   obtain ⟨As, ns, cs, rfl, hls, _, _, _⟩ := st2.row 0 rfl
   replace st := st.join st2
   simp only [List.cons_append, List.nil_append] at st
   rw [List.length_map, Nat.mul_one] at hls
   have hrow := (st.rdS 2 rfl).1
   rw [List.length_replicate] at hrow
   have hno : no = n := by omega
   rw [hno] at st
   rw [show List.replicate n (Value.int .i64 0) = (outAt ws []).map nV by rw [outAt_nil, List.map_replicate, hlw]; rfl] at st
   refine XR_wa (opl_new rfl) rfl rfl rfl ?_
   rintro _ hp ⟨p5, rfl, hnew⟩
   replace st := st.new hnew
   refine XR_wn (opl_store_pt st 0 rfl rfl rfl rfl rfl (rfl)) rfl rfl fun _ hp st => ?_
   simp only [List.set_cons_zero, List.set_cons_succ] at st
   refine XR_nil (X_seq (X_seq (X_reg ?_)))
   refine XR_a (op_ld (st.cell 0 (i := 0) rfl rfl) rfl rfl rfl) rfl rfl ?_
   refine XR_a (op_len rfl rfl rfl) rfl rfl ?_
   refine XR_a (op_eql rfl rfl) rfl rfl ?_
   refine XR_nil ?_
   refine X_if rfl (fun h => ?_) (fun h => ?_)
   ·have h3 : (syms ws).length = 1 := by omega
    obtain ⟨g5, o5, rfl, hc5⟩ := (st.rdS 1 rfl).2.at_ (by rw [List.length_map]; omega)
    have hs0 := hc5 0 (nV ((syms ws).getD 0 0)) (by rw [List.getElem?_map, List.getElem?_eq_getElem (by omega), getD_eq (by omega)]; rfl)
    have hsn := (mem_syms.1 (getD_mem (l := syms ws) (i := 0) (by omega))).1
    obtain ⟨go, no', co', heo, _⟩ := st.row0 3 rfl (by rw [List.length_map, outAt_len]; omega)
    cases heo
    refine X_draw byKind (by kernel_rfl) (by kernel_rfl) ?_
    refine XR_a (op_ld (st.cell 2 (i := 0) rfl rfl) rfl rfl rfl) rfl rfl ?_
    refine XR_a (op_ld (st.cell 0 (i := 0) rfl rfl) rfl rfl rfl) rfl rfl ?_
    refine XR_a (op_index1 (i := 0) rfl rfl rfl (by omega)) rfl rfl ?_
    refine XR_a (op_ld (hs0) rfl rfl rfl) rfl rfl ?_
    first | refine XR_a (op_index1 rfl rfl rfl (by omega)) rfl rfl ?_ | refine XR_a (op_index rfl rfl rfl (by omega)) rfl rfl ?_
    refine XR_wn (opl_store_row (v := nV 1) st 3 rfl rfl rfl (by rw [List.length_map, outAt_len]; omega) rfl rfl) rfl rfl fun _ hp st => ?_
    simp only [List.set_cons_zero, List.set_cons_succ] at st
    rw [map_set_nV, outAt_nil, lensW_single h3] at st
    refine XR_nil (X_seq (X_seq (X_reg ?_)))
    refine XR_a (op_ld (st.cell 0 (i := 0) rfl rfl) rfl rfl rfl) rfl rfl ?_
    refine XR_a (op_len rfl rfl rfl) rfl rfl ?_
    refine XR_a (op_lss rfl rfl) rfl rfl ?_
    refine XR_nil ?_
    refine X_if rfl (fun h => ?_) (fun h => ?_)
    ·refine X_seq (X_reg ?_)
     refine XR_a (op_ld (st.cell 2 (i := 0) rfl rfl) rfl rfl rfl) rfl rfl ?_
     refine XA rfl rfl rfl (XA rfl rfl rfl (XR_nil ?_))
     refine X_ret (.cons (.tmp rfl) (.cons (.tmp rfl) .nil)) ?_
     exact ⟨_, rfl, (st.re 4 [3, 0, 1, 2] (by decide)).keep 1⟩
    ·exact absurd h (by omega)
   ·refine X_skip (X_seq (X_seq (X_reg ?_)))
    refine XR_a (op_ld (st.cell 0 (i := 0) rfl rfl) rfl rfl rfl) rfl rfl ?_
    refine XR_a (op_len rfl rfl rfl) rfl rfl ?_
    refine XR_a (op_lss rfl rfl) rfl rfl ?_
    refine XR_nil ?_
    refine X_if rfl (fun h => ?_) (fun h => ?_)
    ·refine X_seq (X_reg ?_)
     refine XR_a (op_ld (st.cell 2 (i := 0) rfl rfl) rfl rfl rfl) rfl rfl ?_
     refine XA rfl rfl rfl (XA rfl rfl rfl (XR_nil ?_))
     refine X_ret (.cons (.tmp rfl) (.cons (.tmp rfl) .nil)) ?_
     rename_i h3 h4
     refine ⟨_, rfl, ?_⟩
     rw [lensW_zero (by omega), ← outAt_nil]
     exact (st.re 4 [3, 0, 1, 2] (by decide)).keep 1
    ·refine X_skip (X_seq ?_)
     have h2n : 2 ≤ (syms ws).length := by omega
     obtain ⟨go, no', co', heo, _⟩ := st.row0 3 rfl (by rw [List.length_map, outAt_len]; omega)
     cases heo
     refine X_reg (XV rfl rfl rfl ?_)
     refine XR_a (op_ld (st.cell 0 (i := 0) rfl rfl) rfl rfl rfl) rfl rfl ?_
     refine XR_wa (opl_call (rows_spec) rfl (by kernel_rfl)) rfl rfl rfl ?_
     rintro _ hp3 ⟨pa, pq, rfl, st3⟩
     replace st := st.join st3
     simp only [List.cons_append, List.nil_append] at st
     have stc := st.re 6 [0, 1, 3, 2, 4, 5] (by decide)
     simp only [List.map_cons, List.map_nil, getR] at stc
     have hbase := stc.low
     refine XR_wa (opl_call (collect_rows (α := List Value × List (Value × List Value)) (Q := fun x => x.1.length = 15 ∧ ∀ j, j < 15 → (x.1.getD j (.slice none 0 0), (rowE (sws ws) (j + 1)).flatMap eC) ∈ x.2) (out := fun x => x.1) (F2 := fun x => rowsR 206 2 x.2 :: Bn.row 3 1 (.slice As ns cs) ((syms ws).map nV) :: _) (lb := [.pointer (some ⟨pa, 0, none⟩), .pointer (some ⟨pq, 0, none⟩)]) stc.here (by kernel_rfl) (fun JR G y h hlow s hround => by refine Ret.mono (rows_iter (ws := ws) (F := [_, _, _] ++ G) JR (s.perm (((List.perm_append_comm_assoc [_, _, _] (JR []) G).cons _).cons _ |>.cons _)) (fun h' hl' => hr2.ext ((hbase.trans hlow).trans hl')) hlw (fun s hs => by have := (mem_syms.1 hs).1; omega) (by omega) (fun s _ => hwb s) hround) ?_; rintro _ h' ⟨vs, L, e1, e2, s2⟩; exact ⟨(vs, L), ⟨e1, e2⟩, s2⟩)) rfl (by kernel_rfl)) rfl rfl rfl ?_
     rintro v6 hp6 ⟨⟨vs, L⟩, ⟨hvs, hvL⟩, st6⟩
     obtain ⟨A6, n6, c6, rfl, hl6, _, _, _⟩ := st6.row 0 rfl
     simp only at st6 hl6 hvs hvL
     obtain rfl : n6 = 15 := by omega
     replace st := stc.trans st6
     refine XA rfl rfl rfl (XR_nil (X_seq (X_reg ?_)))
     refine XR_a (op_ld (st.cell 3 (i := 0) rfl rfl) rfl rfl rfl) rfl rfl ?_
     refine XR_a (op_len rfl rfl rfl) rfl rfl ?_
     first | refine XR_a (op_mulN (m := 2) rfl rfl (by simp only [inK]; omega)) rfl rfl ?_ | refine XR_a (op_mulI rfl rfl (by simp only [inK]; omega)) rfl rfl ?_ | refine XR_a (op_mul rfl rfl) rfl rfl ?_
     refine XR_a (op_subN (m := 2 * ns) (n := 2) rfl rfl (by omega) (by simp only [inK]; omega)) rfl rfl ?_
     refine XR_wa (opl_new rfl) rfl rfl rfl ?_
     rintro _ hp ⟨p7, rfl, hnew⟩
     replace st := st.new hnew
     refine XR_wn (opl_store_pt st 0 rfl rfl rfl rfl rfl (rfl)) rfl rfl fun _ hp st => ?_
     simp only [List.set_cons_zero, List.set_cons_succ] at st
     refine XR_nil (X_seq (X_seq (X_reg (XV rfl rfl rfl ?_))))
     refine XR_wa (opl_call (backward_spec) rfl (by kernel_rfl)) rfl rfl rfl ?_
     rintro _ hp8 ⟨pb, rfl, st8⟩
     replace st := st.join st8
     simp only [List.cons_append, List.nil_append] at st
     refine XR_nil (X_block ?_)
     refine X_rangeS st rfl rfl (by kernel_rfl) fun fn tmps LL y d hp1 hL hok hx1 st1 => ?_
     obtain ⟨JR, hJR⟩ : ∃ JR : Nat → List Res, JR = fun j => [exR fun x : List Nat × Nat => andR (x.1 ++ lev (sws ws) (15 - j) x.2 = levW ws ∧ x.2 ≤ (rowE (sws ws) (15 - j)).length) (starR (pt p7 3 [nV x.2]) (Bn.row 3 1 (.slice (some ⟨go, 0, none⟩) n co) ((outAt ws x.1).map nV))),
      obj y (LL .ready none), rowsR 206 2 L, Bn.row 3 1 (.slice As ns cs) ((syms ws).map nV), pt p5 73 [.slice As ns cs], pt p4 73 [.slice (some ⟨go, 0, none⟩) n co]] := ⟨_, rfl⟩
     have st9 := st1.re 10 [3, 9, 2, 4, 0, 5, 6, 7, 8, 1] (by decide)
     simp only [List.map_cons, List.map_nil, getR] at st9
     have hT : ([] : List Nat) ++ lev (sws ws) (15 - 0) (2 * ns - 2) = levW ws ∧ 2 * ns - 2 ≤ (rowE (sws ws) (15 - 0)).length := by
      rw [← hls]
      exact ⟨(levW_two h2n).symm, rowW_len h2n (by omega)⟩
     have st10 := (St.ex.2 ⟨([], 2 * ns - 2), St.and.2 ⟨hT, St.star.2 st9⟩⟩ : St h0.size h0 hp1 ((exR fun x : List Nat × Nat => andR (x.1 ++ lev (sws ws) (15 - 0) x.2 = levW ws ∧ x.2 ≤ (rowE (sws ws) (15 - 0)).length) (starR (pt p7 3 [nV x.2]) (Bn.row 3 1 (.slice (some ⟨go, 0, none⟩) n co) ((outAt ws x.1).map nV)))) :: _)).re 9 [1, 2, 0, 3, 4, 5, 6, 7, 8] (by decide)
     simp only [List.map_cons, List.map_nil, getR] at st10
     have st11 : St h0.size h0 hp1 (pt pb 196 [.slice A6 15 c6] :: Bn.row 198 1 (.slice A6 15 c6) vs :: (JR 0 ++ [obj d (.deferred (some []))])) := by rw [hJR]; exact st10
     refine Ret.mono (backward_iter JR (by omega) st11.here ?_) ?_
     ·intro j F' h hlow hj st2
      subst hL
      subst hJR
      simp only [List.cons_append, List.nil_append] at st2
      obtain ⟨⟨dn, t⟩, st2⟩ := St.ex.1 st2
      obtain ⟨⟨hlev, ht⟩, st2⟩ := St.and.1 st2
      replace st2 := St.star.1 st2
      simp only at hlev ht st2
      obtain ⟨r, hr15⟩ : ∃ r, 15 - j = r + 1 := ⟨14 - j, by omega⟩
      rw [hr15] at hlev ht
      have hrj : 15 - 1 - j = r := by omega
      rw [hrj]
      have hmem := hvL r (by omega)
      obtain ⟨A9, n9, c9, hv9, hl9, hn9, _, hrd9⟩ := st2.rowsAt 3 rfl hmem
      rw [flat_length _ 2 (fun _ => rfl)] at hl9
      simp only at hv9
      rw [hv9]
      obtain ⟨k1, k2, k3, k4, _⟩ := row_take (sws_asc ws) r t ht
      rw [sws_length] at k2
      have hrb := rowE_bd (sws ws) (r + 1)
      rw [sws_length] at hrb
      refine rret_of_X (st2.obj_at 2 rfl) hok rfl rfl fun w0 hw0 => ?_
      simp only [penv]
      refine X_reg (XA rfl rfl rfl (XR_nil ?_))
      refine X_begin (st2.obj_at 2 rfl) ?_
      have st := st2.loop 2 .busy none rfl
      simp only [List.set_cons_zero, List.set_cons_succ] at st
      refine X_block (X_seq (X_reg (XA rfl rfl rfl (XR_nil (X_seq (X_seq (X_reg (XV rfl rfl rfl ?_))))))))
      refine XR_a (op_ld (st.cell 0 (i := 0) rfl rfl) rfl rfl rfl) rfl rfl ?_
      refine XR_a (op_slice_h rfl rfl rfl (by omega)) rfl rfl ?_
      rw [cutA_zero]
      refine XR_a (op_len rfl rfl rfl) rfl rfl ?_
      refine XV rfl rfl rfl (XR_nil (X_block ?_))
      rw [← outIn_zero] at st
      refine X_loop (fun s => t - s.1) (fun s => [(4, .pointer (some ⟨p4, 0, none⟩)), (5, .pointer (some ⟨p5, 0, none⟩)), (7, .pointer (some ⟨p7, 0, none⟩)), (10, nV s.2), (52, .slice A9 t c9), (53, nV t), (54, nV s.1)])
       (fun (s : Nat × Nat) hp => s.1 ≤ t ∧ s.2 = ((rowE (sws ws) (r + 1)).take s.1).countP isItem ∧ Low h0.size h hp ∧ St h0.size h hp (pt p7 3 [nV t] :: Bn.row 3 1 (.slice (some ⟨go, 0, none⟩) n co) ((outIn ws dn s.2).map nV) :: obj y (loopR fn tmps #[48, 49] _ _ d .busy none) :: rowsR 206 2 L :: Bn.row 3 1 (.slice As ns cs) ((syms ws).map nV) :: pt p5 73 [.slice As ns cs] :: pt p4 73 [.slice (some ⟨go, 0, none⟩) n co] :: F'))
       (0, 0) (.cons rfl (.cons rfl (.cons rfl (.cons rfl (.cons rfl (.cons rfl (.cons rfl (.nil _)))))))) ⟨Nat.zero_le _, by simp, st.low, st⟩ ?_
      clear st
      rintro ⟨i, k⟩ hp9 ⟨hi, hk, hlow9, st⟩
      simp only at hi hk st ⊢
      refine X_seq (X_reg ?_)
      refine XR_a (op_lss rfl rfl) rfl rfl ?_
      refine XR_nil (X_seq ?_)
      refine X_if rfl (fun h => ?_) (fun h => ?_)
      ·have hit : i < (rowE (sws ws) (r + 1)).length := by omega
       have hrd9 := (st.rowsAt 3 rfl hmem)
       simp only [hv9] at hrd9
       obtain ⟨A9', n9', c9', he9, _, _, _, hrd9⟩ := hrd9
       cases he9
       obtain ⟨g9, o9, rfl, hc9⟩ := Rd.flat eC 2 hrd9 (fun _ => rfl) (by omega) (by omega)
       have hcell := hc9 i hit
       have htk := List.take_succ_eq_append_getElem hit
       obtain ⟨e, hee⟩ : ∃ e, (rowE (sws ws) (r + 1))[i] = e := ⟨_, rfl⟩
       rw [hee] at hcell htk
       have hk' : ((rowE (sws ws) (r + 1)).take (i + 1)).countP isItem = k + if isItem e = true then 1 else 0 := by
        rw [htk, List.countP_append, List.countP_singleton, hk]
       obtain ⟨q1, q2, _⟩ := row_take (sws_asc ws) r (i + 1) (by omega)
       unfold numI at q1 q2
       rw [sws_length] at q2
       refine X_skip (X_seq (X_block (X_seq (X_reg ?_))))
       refine XR_a (op_index (i := i) rfl rfl rfl (by omega)) rfl rfl ?_
       refine XR_a (op_ldA (vs := eC e) (fun j u hu => hcell j u hu) rfl rfl rfl rfl) rfl rfl ?_
       refine XR_wa (opl_new rfl) rfl rfl rfl ?_
       rintro _ hp ⟨p12, rfl, hnew⟩
       replace st := st.new hnew
       refine XR_wn (opl_store_whole (us := eC e) st 0 rfl rfl rfl rfl rfl (one_eC e) rfl) rfl rfl fun _ hp st => ?_
       simp only [List.set_cons_zero] at st
       refine XR_nil (X_seq (X_reg ?_))
       first | refine XR_a (op_field0 rfl rfl) rfl rfl ?_ | refine XR_a (op_fieldn rfl rfl) rfl rfl ?_
       refine XR_a (op_ld (st.cell 0 (i := 1) rfl rfl) rfl rfl rfl) rfl rfl ?_
       refine XR_nil ?_
       refine X_cond rfl (fun h => ?_) (fun h => ?_)
       ·rw [if_pos h] at hk'
        have hks : k < (syms ws).length := by omega
        obtain ⟨g5, o5, rfl, hc5⟩ := (st.rdS 5 rfl).2.at_ (by rw [List.length_map]; omega)
        have hsk := hc5 k (nV ((syms ws).getD k 0)) (by rw [List.getElem?_map, List.getElem?_eq_getElem hks, getD_eq hks]; rfl)
        have hsn := (mem_syms.1 (getD_mem (l := syms ws) hks)).1
        have hog := outIn_get (L := dn) (k := k) hsn
        rw [idxOf_getD hks, if_neg (by omega), Nat.add_zero] at hog
        obtain ⟨g6, o6, he6, hc6⟩ := (st.rdS 2 rfl).2.at_ (by rw [List.length_map, outIn_len]; omega)
        cases he6
        have hov := hc6 _ _ (map_get_nV hog)
        have hset := outIn_set (L := dn) hks
        have hlv := lvl_le dn k
        have hdl : dn.length ≤ 15 := by
         have := congrArg List.length hlev
         rw [List.length_append, lev_length] at this
         have := levW_length (ws := ws)
         omega
        refine X_seq ?_
        refine X_draw byKind (by kernel_rfl) (by kernel_rfl) ?_
        refine XR_a (op_ld (st.cell 7 (i := 0) rfl rfl) rfl rfl rfl) rfl rfl ?_
        refine XR_a (op_ld (st.cell 6 (i := 0) rfl rfl) rfl rfl rfl) rfl rfl ?_
        refine XV rfl rfl rfl ?_
        first | refine XR_a (op_index1 rfl rfl rfl (by omega)) rfl rfl ?_ | refine XR_a (op_index rfl rfl rfl (by omega)) rfl rfl ?_
        refine XR_a (op_ld (hsk) rfl rfl rfl) rfl rfl ?_
        first | refine XR_a (op_index1 rfl rfl rfl (by omega)) rfl rfl ?_ | refine XR_a (op_index rfl rfl rfl (by omega)) rfl rfl ?_
        refine XR_a (op_ld (hov) rfl rfl rfl) rfl rfl ?_
        first | refine XR_a (op_addN (n := 1) rfl rfl (by simp only [inK]; omega)) rfl rfl ?_ | refine XR_a (op_addI rfl rfl (by simp only [inK]; omega)) rfl rfl ?_ | refine XR_a (op_add rfl rfl) rfl rfl ?_
        first | refine XR_a (op_index1 rfl rfl rfl (by omega)) rfl rfl ?_ | refine XR_a (op_index rfl rfl rfl (by omega)) rfl rfl ?_
        refine XR_wn (opl_store_row (v := nV (lvl dn k + 1)) st 2 rfl rfl rfl (by rw [List.length_map, outIn_len]; omega) rfl rfl) rfl rfl fun _ hp st => ?_
        simp only [List.set_cons_zero, List.set_cons_succ] at st
        rw [map_set_nV, hset] at st
        refine XR_nil (X_reg (XV rfl rfl rfl ?_))
        first | refine XR_a (op_addN (n := 1) rfl rfl (by simp only [inK]; omega)) rfl rfl ?_ | refine XR_a (op_addI rfl rfl (by simp only [inK]; omega)) rfl rfl ?_ | refine XR_a (op_add rfl rfl) rfl rfl ?_
        refine XA rfl rfl rfl (XR_nil (X_blk (X_reg ?_)))
        first | refine XR_a (op_addN (n := 1) rfl rfl (by simp only [inK]; omega)) rfl rfl ?_ | refine XR_a (op_addI rfl rfl (by simp only [inK]; omega)) rfl rfl ?_ | refine XR_a (op_add rfl rfl) rfl rfl ?_
        refine XV rfl rfl rfl (XR_nil ?_)
        exact X_again (i + 1, k + 1) (.cons rfl (.cons rfl (.cons rfl (.cons rfl (.cons rfl (.cons rfl (.cons rfl (.nil _)))))))) ⟨by simp only; omega, hk'.symm, st.low, st.tail⟩ (by simp only; omega)
       ·refine X_skip (X_blk (X_reg ?_))
        first | refine XR_a (op_addN (n := 1) rfl rfl (by simp only [inK]; omega)) rfl rfl ?_ | refine XR_a (op_addI rfl rfl (by simp only [inK]; omega)) rfl rfl ?_ | refine XR_a (op_add rfl rfl) rfl rfl ?_
        refine XV rfl rfl rfl (XR_nil ?_)
        have hff : ¬ isItem e = true := by simpa using h
        rw [if_neg hff, Nat.add_zero] at hk'
        exact X_again (i + 1, k) (.cons rfl (.cons rfl (.cons rfl (.cons rfl (.cons rfl (.cons rfl (.cons rfl (.nil _)))))))) ⟨by simp only; omega, hk'.symm, st.low, st.tail⟩ (by simp only; omega)
      ·refine X_exit rfl ?_
       obtain rfl : i = t := by omega
       have hkn : k = numI (sws ws) (r + 1) i := hk
       refine X_reg ?_
       refine XR_a (op_ld (st.cell 0 (i := 0) rfl rfl) rfl rfl rfl) rfl rfl ?_
       refine XV rfl rfl rfl ?_
       first | refine XR_a (op_subN rfl rfl (by omega) (by simp only [inK]; omega)) rfl rfl ?_ | refine XR_a (op_subI rfl rfl (by simp only [inK]; omega)) rfl rfl ?_ | refine XR_a (op_sub rfl rfl) rfl rfl ?_
       first | refine XR_a (op_mulN (m := 2) rfl rfl (by simp only [inK]; omega)) rfl rfl ?_ | refine XR_a (op_mulI rfl rfl (by simp only [inK]; omega)) rfl rfl ?_ | refine XR_a (op_mul rfl rfl) rfl rfl ?_
       refine XR_wn (opl_store_pt st 0 rfl rfl rfl rfl rfl (rfl)) rfl rfl fun _ hp st => ?_
       simp only [List.set_cons_zero, List.set_cons_succ] at st
       refine XR_nil (X_blk ?_)
       refine X_rnd (st.obj_at 2 rfl) ⟨rfl, ?_⟩
       replace st := st.loop 2 .ready none rfl
       simp only [List.set_cons_zero, List.set_cons_succ] at st
       rw [outIn_done] at st
       have hj1 : 15 - (j + 1) = r := by omega
       simp only [List.cons_append, List.nil_append, hj1]
       refine St.ex.2 ⟨(dn ++ [k], 2 * (i - k)), St.and.2 ⟨⟨?_, ?_⟩, St.star.2 st⟩⟩
       ·rw [← hlev, lev, ← hkn]; simp
       ·rw [← hkn] at k3; exact k3
     rintro _ h' st2
     subst hJR
     simp only [List.cons_append, List.nil_append] at st2
     refine .inl ⟨_, (st11.trans st2).perm (List.Perm.swap _ _ _), fun hp3 st3 => ?_⟩
     obtain ⟨⟨dn, t⟩, st3⟩ := St.ex.1 (st3.perm (List.Perm.swap _ _ _))
     obtain ⟨⟨hlev, _⟩, st3⟩ := St.and.1 st3
     have st := St.star.1 st3
     simp only at hlev st
     rw [show 15 - 15 = 0 from rfl, lev, List.append_nil] at hlev
     rw [hlev, outAt_levW] at st
     refine X_blk (X_seq (X_reg ?_))
     refine XR_a (op_ld (st.cell 6 (i := 0) rfl rfl) rfl rfl rfl) rfl rfl ?_
     refine XA rfl rfl rfl (XA rfl rfl rfl (XR_nil ?_))
     refine X_retM (d := d) (.cons (.tmp rfl) (.cons (.tmp rfl) .nil)) ?_ (st.obj_at 7 rfl)
     replace st := st.put 7 (.deferred none) rfl
     exact ⟨_, rfl, (st.re 8 [1, 0, 2, 3, 4, 5, 6, 7] (by decide)).keep 1⟩
end Go.Bn
end

section
set_option linter.unusedVariables false
set_option linter.unusedSimpArgs false
set_option maxHeartbeats 4000000
set_option maxRecDepth 20000
namespace Go.Bn
open Go Proofs
theorem lenAt_cast (ls : List Nat) (x : Nat) : lenAt ls (x : Int) = ls.getD x 0 := by unfold lenAt; rw [if_neg (by omega), Int.toNat_natCast]
def putE (li : List Int) : Nat := if li.length < 1 ∨ 320 < li.length then 5 else if ∀ x ∈ li, 0 ≤ x ∧ x ≤ 15 then 0 else 1
noncomputable def putL (li : List Int) : List Bool := if putE li = 0 then putR (li.map Int.toNat) else []
theorem rput_spec {B p n c : Nat} {A : Option Addr} {li : List Int} {bs : List Bool} {F : List Res} {h0 : Heap} (st0 : St B h0 h0 (wrR p bs :: F)) (hrB : ∀ h' rs, St B h0 h' (rs ++ F) → Rd h' A (li.map iV)) (hl : li.length = n) (hn : n ≤ 17592186044416) (hbs : bs.length ≤ 1048576) :
  Ret Tryz.prog 79 [.pointer (some ⟨p, 0, none⟩), .slice A n c] h0 fun v h' => v = nV (putE li) ∧ St B h0 h' (wrR p (bs ++ putL li) :: F) := by
 refine ret_of_X Tryz.func79 rfl rfl fun w0 hw0 => ?_
 simp only [argE, Nat.zero_add, Nat.reduceAdd]
 refine X_seq (X_reg ?_)
 refine XR_wa (opl_bx (cs := [.pointer (some ⟨p, 0, none⟩)]) rfl rfl) rfl rfl rfl ?_
 rintro _ hp ⟨p2, rfl, hnew⟩
 have st := st0.new hnew
 refine XA rfl rfl rfl (XR_nil (X_seq (X_block (X_seq (X_reg (XV rfl rfl rfl ?_))))))
 refine XR_a (op_len rfl rfl rfl) rfl rfl ?_
 refine XR_a (op_lss rfl rfl) rfl rfl ?_
 refine XV rfl rfl rfl ?_
 refine XR_if 21 rfl (fun h => ?_) (fun h => ?_)
 ·have h21 := h
  refine XR_no rfl rfl (XR_no rfl rfl (XR_no rfl rfl (XR_a (op_pick_t rfl rfl) rfl rfl (XA rfl rfl rfl (XR_nil (X_then rfl (X_seq (X_reg (XA rfl rfl rfl ?_)))))))))
  refine XR_nil ?_
  refine X_ret (.cons (.tmp rfl) .nil) ?_
  have he : putE li = 5 := by unfold putE; rw [if_pos (by omega)]
  unfold putL
  rw [he, if_neg (by omega), List.append_nil]
  exact ⟨rfl, st.tail⟩
 ·have h21 := h
  refine XV rfl rfl rfl ?_
  refine XR_a (op_len rfl rfl rfl) rfl rfl ?_
  refine XR_a (op_gtr rfl rfl) rfl rfl ?_
  refine XR_a (op_pick_f rfl rfl) rfl rfl (XA rfl rfl rfl (XR_nil ?_))
  refine X_if rfl (fun h => ?_) (fun h => ?_)
  ·refine X_seq (X_reg (XA rfl rfl rfl (XR_nil ?_)))
   refine X_ret (.cons (.tmp rfl) .nil) ?_
   have he : putE li = 5 := by unfold putE; rw [if_pos (by omega)]
   unfold putL
   rw [he, if_neg (by omega), List.append_nil]
   exact ⟨rfl, st.tail⟩
  ·refine X_seq (X_reg ?_)
   refine XR_a (op_ld (st.cell 0 (i := 0) rfl rfl) rfl rfl rfl) rfl rfl ?_
   refine XR_a (op_ptr_nil rfl rfl rfl) rfl rfl ?_
   refine XV rfl rfl rfl (XV rfl rfl rfl ?_)
   refine XR_wa (opl_call (rright_spec (hrB _ [_, _] st) hl hn) rfl (by kernel_rfl)) rfl rfl rfl ?_
   rintro _ _ ⟨rfl, rfl⟩
   first | refine XR_a (op_notd rfl) rfl rfl ?_ | refine XR_a (op_not rfl) rfl rfl ?_
   refine XR_a (op_pick_f rfl rfl) rfl rfl (XA rfl rfl rfl (XR_nil ?_))
   refine X_if rfl (fun h => ?_) (fun h => ?_)
   ·refine X_seq (X_reg (XA rfl rfl rfl (XR_nil ?_)))
    refine X_ret (.cons (.tmp rfl) .nil) ?_
    have he : putE li = 1 := by unfold putE; rw [if_neg (by omega), if_neg h]
    unfold putL
    rw [he, if_neg (by omega), List.append_nil]
    exact ⟨rfl, st.tail⟩
   ·have hb := Decidable.not_not.1 h
    have he : putE li = 0 := by unfold putE; rw [if_neg (by omega), if_pos hb]
    have hpl : putL li = putR (li.map Int.toNat) := by unfold putL; rw [if_pos he]
    have hb2 : ∀ x ∈ li.map Int.toNat, x ≤ 15 := fun x hx => by obtain ⟨y, hy, rfl⟩ := List.mem_map.1 hx; have := hb y hy; omega
    have hrN : ∀ h' rs, St B h0 h' (rs ++ F) → Rd h' A ((li.map Int.toNat).map nV) := fun h' rs hs => by rw [nV_iV, toNat_map fun x hx => (hb x hx).1]; exact hrB h' rs hs
    have hlN : (li.map Int.toNat).length = n := by rw [List.length_map]; exact hl
    rw [he, hpl]
    obtain ⟨ls, hls⟩ : ∃ ls, li.map Int.toNat = ls := ⟨_, rfl⟩
    rw [hls] at hb2 hrN hlN
    rw [hls]
    have hpm := partsL_mem hb2
    have hplen := partsL_len ls
    have hok := plens_ok hb2 (by omega)
    have h19 := plens_len ls
    refine X_skip (X_blk (X_seq (X_reg ?_)))
    refine XR_wa (opl_mk (n := 19) (by omega) rfl rfl rfl) rfl rfl rfl ?_
    rintro v hp hnew
    replace st := st.new hnew
    obtain ⟨go, no, co, rfl, hno, _⟩ := st.row0 0 rfl (by rw [List.length_replicate]; omega)
    obtain rfl : no = 19 := by simpa using hno.symm
    rw [show List.replicate 19 (Value.int .i64 0) = (pcnt []).map nV by rw [pcnt_nil, List.map_replicate]; rfl] at st
    refine XR_wa (opl_new rfl) rfl rfl rfl ?_
    rintro _ hp ⟨p5, rfl, hnew⟩
    replace st := st.new hnew
    refine XR_wn (opl_store_pt st 0 rfl rfl rfl rfl rfl (rfl)) rfl rfl fun _ hp st => ?_
    simp only [List.set_cons_zero, List.set_cons_succ] at st
    refine XR_nil (X_seq (X_seq (X_reg (XV rfl rfl rfl ?_))))
    refine XR_wa (opl_call (rparts_spec) rfl (by kernel_rfl)) rfl rfl rfl ?_
    rintro _ hp3 ⟨pp, rfl, st3⟩
    replace st := st.join st3
    simp only [List.cons_append, List.nil_append] at st
    refine XR_nil (X_block ?_)
    refine X_rangeS st rfl rfl (by kernel_rfl) fun fn tmps L1 y1 d1 hp1 hL1 hok1 hx1 st1 => ?_
    obtain ⟨JR, hJR⟩ : ∃ JR : List (Nat × Nat) → List Res, JR = fun s => [obj y1 (L1 .ready none), pt p5 73 [.slice (some ⟨go, 0, none⟩) 19 co], Bn.row 3 1 (.slice (some ⟨go, 0, none⟩) 19 co) ((pcnt s).map nV)] := ⟨_, rfl⟩
    have st2 := St.reF [_, _, _, _, _] 5 st1 [2, 0, 3, 4, 1] (by decide)
    simp only [List.map_cons, List.map_nil, getR, List.cons_append, List.nil_append] at st2
    have st11 : St B h0 hp1 (pt pp 73 [.slice A n c] :: (JR [] ++ (obj d1 (.deferred (some [])) :: pt p2 41 [.pointer (some ⟨p, 0, none⟩)] :: wrR p bs :: F))) := by rw [hJR]; exact st2
    refine Ret.mono (parts_iter JR st11.here (fun h' rs hs => hrN h' (rs ++ [_, _, _]) (by rw [List.append_assoc]; exact st11.trans hs)) hlN (by omega) ?_) ?_
    ·intro s x r F' h hlow hsP st2
     subst hL1
     subst hJR
     simp only [List.cons_append, List.nil_append] at st2
     have hx19 := (hpm x (by rw [← hsP]; simp)).1
     have hsl : s.length < (partsL ls 0).length := by rw [← hsP]; simp
     have hcl := pcnt_le s
     have hog := pcnt_get (s := s) hx19
     have hcx : (s.map (·.1)).count x.1 ≤ s.length := hcl _ (List.mem_of_getElem? hog)
     refine rret_of_X (st2.obj_at 0 rfl) hok1 rfl rfl fun w0 hw0 => ?_
     simp only [penv]
     refine X_reg ?_
     refine XR_wa (opl_new rfl) rfl rfl rfl ?_
     rintro _ hp ⟨p6, rfl, hnew⟩
     have st := st2.new hnew
     refine XR_wn (opl_store_whole (us := pC2 x) st 0 rfl rfl rfl rfl rfl (one_pC2 x) rfl) rfl rfl fun _ hp st => ?_
     simp only [List.set_cons_zero] at st
     refine XR_nil ?_
     refine X_begin (st.obj_at 1 rfl) ?_
     replace st := st.loop 1 .busy none rfl
     simp only [List.set_cons_zero, List.set_cons_succ] at st
     obtain ⟨_, _, he8, hc8⟩ := (st.rdS 3 rfl).2.at_ (by rw [List.length_map, pcnt_len]; omega)
     cases he8
     have hov := hc8 _ _ (map_get_nV hog)
     refine X_block (X_reg ?_)
     refine XR_a (op_ld (st.cell 2 (i := 0) rfl rfl) rfl rfl rfl) rfl rfl ?_
     first | refine XR_a (op_field0 rfl rfl) rfl rfl ?_ | refine XR_a (op_fieldn rfl rfl) rfl rfl ?_
     refine XR_a (op_ld (st.cell 0 (i := 0) rfl rfl) rfl rfl rfl) rfl rfl ?_
     first | refine XR_a (op_index1 rfl rfl rfl (by omega)) rfl rfl ?_ | refine XR_a (op_index rfl rfl rfl (by omega)) rfl rfl ?_
     refine XR_a (op_ld (hov) rfl rfl rfl) rfl rfl ?_
     first | refine XR_a (op_addN (n := 1) rfl rfl (by simp only [inK]; omega)) rfl rfl ?_ | refine XR_a (op_addI rfl rfl (by simp only [inK]; omega)) rfl rfl ?_ | refine XR_a (op_add rfl rfl) rfl rfl ?_
     first | refine XR_a (op_index1 rfl rfl rfl (by omega)) rfl rfl ?_ | refine XR_a (op_index rfl rfl rfl (by omega)) rfl rfl ?_
     refine XR_wn (opl_store_row (v := nV ((s.map (·.1)).count x.1 + 1)) st 3 rfl rfl rfl (by rw [List.length_map, pcnt_len]; exact hx19) rfl rfl) rfl rfl fun _ hp st => ?_
     simp only [List.set_cons_zero, List.set_cons_succ] at st
     rw [map_set_nV, pcnt_set] at st
     refine XR_nil (X_blk ?_)
     refine X_rnd (st.obj_at 1 rfl) ⟨rfl, ?_⟩
     replace st := st.loop 1 .ready none rfl
     simp only [List.set_cons_zero, List.set_cons_succ] at st
     exact st.tail
    rintro _ h' st3
    subst hJR
    simp only [List.cons_append, List.nil_append] at st3
    refine .inl ⟨_, st11.trans st3, fun hp3 st4 => ?_⟩
    have st := st4
    have hrdP := (st.rdS 2 rfl).2
    rw [nV_iV] at hrdP
    have hbW : boundedB 1073741824 ((pcnt (partsL ls 0)).map fun n : Nat => (n : Int)) := by
     refine ⟨by rw [List.length_map, pcnt_len]; omega, fun x hx => ?_⟩
     obtain ⟨y, hy, rfl⟩ := List.mem_map.1 hx
     have := pcnt_le _ y hy; omega
    have hlI : lensI ((pcnt (partsL ls 0)).map fun n : Nat => (n : Int)) = plens ls := by
     unfold lensI
     rw [if_pos (errW_zero.2 hbW), cast_toNat]; rfl
    have hRC : rightC ((plens ls).map fun n : Nat => (n : Int)) := by
     refine ⟨by rw [List.length_map, h19]; omega, ⟨by rw [List.length_map, h19]; omega, fun x hx => ?_⟩, by rw [cast_toNat]; exact hok.2.2.2⟩
     obtain ⟨y, hy, rfl⟩ := List.mem_map.1 hx
     have := hok.2.2.1 y hy; omega
    refine X_blk (X_seq (X_reg ?_))
    refine XR_a (op_ld (st.cell 1 (i := 0) rfl rfl) rfl rfl rfl) rfl rfl ?_
    refine XR_wa (opl_call (lengths_spec hrdP (by rw [List.length_map, pcnt_len]) (by omega)) rfl (by kernel_rfl)) rfl rfl rfl ?_
    rintro _ hp5 ⟨v7, rfl, st5⟩
    rw [hlI] at st5
    obtain ⟨A7, n7, c7, rfl, hl7, _, _, hrd7⟩ := st5.row 0 rfl
    rw [List.length_map, h19, Nat.mul_one] at hl7
    obtain rfl : n7 = 19 := by omega
    replace st := st.join st5
    simp only [List.cons_append, List.nil_append] at st
    have hrd7I := hrd7
    rw [nV_iV] at hrd7I
    refine XV rfl rfl rfl (XR_a (op_extract rfl rfl) rfl rfl (XR_a (op_extract rfl rfl) rfl rfl (XA rfl rfl rfl (XA rfl rfl rfl (XR_nil (X_seq (X_reg (XV rfl rfl rfl ?_))))))))
    refine XR_wa (opl_call (cnew_spec hrd7I (by rw [List.length_map, h19]) (by omega)) rfl (by kernel_rfl)) rfl rfl rfl ?_
    rintro _ hp6 ⟨w, rfl, hx6, hy6, _⟩
    obtain ⟨pc, rfl, sc⟩ := hy6 hRC
    rw [cast_toNat] at sc
    replace st := st.join sc
    simp only [List.cons_append, List.nil_append] at st
    refine XV rfl rfl rfl (XR_a (op_extract rfl rfl) rfl rfl (XR_a (op_extract rfl rfl) rfl rfl ?_))
    refine XR_wa (opl_new rfl) rfl rfl rfl ?_
    rintro _ hp ⟨p9, rfl, hnew⟩
    replace st := st.new hnew
    refine XR_wn (opl_store_pt st 0 rfl rfl rfl rfl rfl (rfl)) rfl rfl fun _ hp st => ?_
    simp only [List.set_cons_zero, List.set_cons_succ] at st
    refine XA rfl rfl rfl (XR_nil (X_seq ?_))
    replace st := St.reF [_, _, _, _, _, _, _, _, _] 9 st [3, 4, 5, 8, 1, 7, 0, 2, 6] (by decide)
    simp only [List.map_cons, List.map_nil, getR, List.cons_append, List.nil_append] at st
    replace st := st.tail.tail.tail
    refine X_reg ?_
    refine XR_a (op_ld (st.cell 2 (i := 0) rfl rfl) rfl rfl rfl) rfl rfl ?_
    refine XV rfl rfl rfl ?_
    refine XR_a (op_len rfl rfl rfl) rfl rfl ?_
    refine XR_a (op_convI (k' := .u32) rfl rfl (by simp only [inK]; omega)) rfl rfl ?_
    refine XR_wa (opl_call (put_spec (n := n) (k := 9) st.here (by omega) (by omega)) rfl (by kernel_rfl)) rfl rfl rfl ?_
    rintro _ hp7 ⟨rfl, st7⟩
    rw [show wd 32 9 = 9 from rfl] at st7
    replace st := st.trans st7
    refine XR_nil (X_seq (X_seq (X_reg (XV rfl rfl rfl ?_))))
    refine XR_a (op_len rfl rfl rfl) rfl rfl ?_
    refine XV rfl rfl rfl (XR_nil (X_block ?_))
    have hh0 : bs ++ bitsN 9 n = bs ++ putHead ls 0 := by unfold putHead; rw [hlN]; simp
    rw [hh0] at st
    refine X_loop (fun i => 19 - i) (fun i => [(1, .slice A n c), (2, .pointer (some ⟨p2, 0, none⟩)), (9, .pointer (some ⟨p9, 0, none⟩)), (60, .slice A7 19 c7), (61, nV 19), (62, nV i)])
     (fun (i : Nat) hp => i ≤ 19 ∧ St B h0 hp (wrR p (bs ++ putHead ls i) :: codeR pc (plens ls) :: pt p2 41 [.pointer (some ⟨p, 0, none⟩)] :: pt p9 68 [.pointer (some ⟨pc, 0, none⟩)] :: Bn.row 3 1 (.slice A7 19 c7) ((plens ls).map nV) :: obj d1 (.deferred (some [])) :: F))
     0 (.cons rfl (.cons rfl (.cons rfl (.cons rfl (.cons rfl (.cons rfl (.nil _))))))) ⟨Nat.zero_le _, st⟩ ?_
    clear st st7
    rintro i hp8 ⟨hi, st⟩
    refine X_seq (X_reg ?_)
    refine XR_a (op_lss rfl rfl) rfl rfl ?_
    refine XR_nil (X_seq ?_)
    refine X_if rfl (fun h => ?_) (fun h => ?_)
    ·obtain ⟨g7, o7, rfl, hc7⟩ := (st.rdS 4 rfl).2.at_ (by rw [List.length_map]; omega)
     have hli := hc7 i (nV ((plens ls).getD i 0)) (by rw [List.getElem?_map, List.getElem?_eq_getElem (by omega), getD_eq (by omega)]; rfl)
     have hl15 : (plens ls).getD i 0 ≤ 15 := by rw [getD_eq (by omega)]; exact hok.2.2.1 _ (List.getElem_mem _)
     have hhl := putHead_len ls i
     refine X_skip (X_seq (X_block (X_seq (X_reg ?_))))
     first | refine XR_a (op_index1 rfl rfl rfl (by omega)) rfl rfl ?_ | refine XR_a (op_index rfl rfl rfl (by omega)) rfl rfl ?_
     refine XR_a (op_ld (hli) rfl rfl rfl) rfl rfl ?_
     refine XA rfl rfl rfl (XR_nil (X_reg ?_))
     refine XR_a (op_ld (st.cell 2 (i := 0) rfl rfl) rfl rfl rfl) rfl rfl ?_
     refine XV rfl rfl rfl ?_
     refine XR_a (op_convI (k' := .u32) rfl rfl (by simp only [inK]; omega)) rfl rfl ?_
     refine XR_wa (opl_call (put_spec (n := (plens ls).getD i 0) (k := 4) st.here (by omega) (by rw [List.length_append]; omega)) rfl (by kernel_rfl)) rfl rfl rfl ?_
     rintro _ hp9 ⟨rfl, st9⟩
     rw [show wd 32 4 = 4 from rfl, List.append_assoc, ← putHead_succ (by omega)] at st9
     replace st := st.trans st9
     refine XR_nil (X_blk (X_reg ?_))
     first | refine XR_a (op_addN (n := 1) rfl rfl (by simp only [inK]; omega)) rfl rfl ?_ | refine XR_a (op_addI rfl rfl (by simp only [inK]; omega)) rfl rfl ?_ | refine XR_a (op_add rfl rfl) rfl rfl ?_
     refine XV rfl rfl rfl (XR_nil ?_)
     exact X_again (i + 1) (.cons rfl (.cons rfl (.cons rfl (.cons rfl (.cons rfl (.cons rfl (.nil _))))))) ⟨by omega, st⟩ (by omega)
    ·refine X_exit rfl (X_seq (X_seq ?_))
     obtain rfl : i = 19 := by omega
     have hhl := putHead_len ls 19
     refine X_reg (XV rfl rfl rfl ?_)
     refine XR_wa (opl_call (rparts_spec) rfl (by kernel_rfl)) rfl rfl rfl ?_
     rintro _ hp10 ⟨pp2, rfl, st10⟩
     replace st := st.join st10
     simp only [List.cons_append, List.nil_append] at st
     refine XR_nil (X_block ?_)
     refine X_rangeS st rfl rfl (by kernel_rfl) fun fn2 tmps2 L2 y2 d2 hp2 hL2 hok2 hx2 st1 => ?_
     obtain ⟨JR, hJR⟩ : ∃ JR : List (Nat × Nat) → List Res, JR = fun s => [obj y2 (L2 .ready none), wrR p (bs ++ putHead ls 19 ++ s.flatMap (partBits (plens ls))), codeR pc (plens ls), pt p2 41 [.pointer (some ⟨p, 0, none⟩)], pt p9 68 [.pointer (some ⟨pc, 0, none⟩)]] := ⟨_, rfl⟩
     have st2 := St.reF [_, _, _, _, _, _, _, _, _] 9 st1 [2, 0, 3, 4, 5, 6, 1, 7, 8] (by decide)
     simp only [List.map_cons, List.map_nil, getR, List.cons_append, List.nil_append] at st2
     have st12 : St B h0 hp2 (pt pp2 73 [.slice A n c] :: (JR [] ++ (obj d2 (.deferred (some [])) :: Bn.row 3 1 (.slice A7 19 c7) ((plens ls).map nV) :: obj d1 (.deferred (some [])) :: F))) := by rw [hJR]; simpa using st2
     refine Ret.mono (parts_iter JR st12.here (fun h' rs hs => hrN h' (rs ++ [_, _, _]) (by rw [List.append_assoc]; exact st12.trans hs)) hlN (by omega) ?_) ?_
     ·intro s x r F' h hlow hsP st2
      subst hL2
      subst hJR
      simp only [List.cons_append, List.nil_append] at st2
      obtain ⟨hx19, hxL, hxH⟩ := hpm x (by rw [← hsP]; simp)
      have hxh := rH_le x.1
      have hsl : s.length < (partsL ls 0).length := by rw [← hsP]; simp
      have hfb := flat_bd (partBits (plens ls)) 22 (partBits_len hok) s
      have hpb := partBits_len hok x
      refine rret_of_X (st2.obj_at 0 rfl) hok2 rfl rfl fun w0 hw0 => ?_
      simp only [penv]
      refine X_reg ?_
      refine XR_wa (opl_new rfl) rfl rfl rfl ?_
      rintro _ hp ⟨p13, rfl, hnew⟩
      have st := st2.new hnew
      refine XR_wn (opl_store_whole (us := pC2 x) st 0 rfl rfl rfl rfl rfl (one_pC2 x) rfl) rfl rfl fun _ hp st => ?_
      simp only [List.set_cons_zero] at st
      refine XR_nil ?_
      refine X_begin (st.obj_at 1 rfl) ?_
      replace st := st.loop 1 .busy none rfl
      simp only [List.set_cons_zero, List.set_cons_succ] at st
      replace st := St.reF [_, _, _, _, _, _] 6 st [2, 3, 0, 1, 4, 5] (by decide)
      simp only [List.map_cons, List.map_nil, getR, List.cons_append, List.nil_append] at st
      refine X_block (X_seq (X_reg ?_))
      first | refine XR_a (op_field0 rfl rfl) rfl rfl ?_ | refine XR_a (op_fieldn rfl rfl) rfl rfl ?_
      refine XR_a (op_ld (st.cell 2 (i := 0) rfl rfl) rfl rfl rfl) rfl rfl ?_
      refine XR_wa (opl_call (bounds_spec x.1 _) rfl (by kernel_rfl)) rfl rfl rfl ?_
      rintro _ _ ⟨rfl, rfl⟩
      refine XV rfl rfl rfl (XR_a (op_extract rfl rfl) rfl rfl (XR_a (op_extract rfl rfl) rfl rfl (XR_a (op_extract rfl rfl) rfl rfl (XA rfl rfl rfl (XA rfl rfl rfl (XA rfl rfl rfl (XR_nil (X_seq (X_reg ?_)))))))))
      refine XR_a (op_ld (st.cell 5 (i := 0) rfl rfl) rfl rfl rfl) rfl rfl ?_
      refine XR_a (op_ld (st.cell 4 (i := 0) rfl rfl) rfl rfl rfl) rfl rfl ?_
      first | refine XR_a (op_field0 rfl rfl) rfl rfl ?_ | refine XR_a (op_fieldn rfl rfl) rfl rfl ?_
      refine XR_a (op_ld (st.cell 2 (i := 0) rfl rfl) rfl rfl rfl) rfl rfl ?_
      refine XR_wa (opl_call (cput_spec (s := (x.1 : Nat)) st.here hok (by simp only [List.length_append]; omega)) rfl (by kernel_rfl)) rfl rfl rfl ?_
      rintro _ hp14 ⟨rfl, st14⟩
      rw [lenAt_cast, Int.toNat_natCast] at st14
      replace st := st.trans st14
      refine XR_nil (X_reg ?_)
      refine XR_a (op_ld (st.cell 4 (i := 0) rfl rfl) rfl rfl rfl) rfl rfl ?_
      first | refine XR_a (op_field0 rfl rfl) rfl rfl ?_ | refine XR_a (op_fieldn rfl rfl) rfl rfl ?_
      refine XR_a (op_ld (st.cell 2 (i := 1) rfl rfl) rfl rfl rfl) rfl rfl ?_
      refine XV rfl rfl rfl ?_
      refine XR_a (op_subN (m := x.2) (n := rL x.1) rfl rfl hxL (by simp only [inK]; omega)) rfl rfl ?_
      refine XR_a (op_convI (k' := .u32) rfl rfl (by simp only [inK]; omega)) rfl rfl ?_
      refine XV rfl rfl rfl ?_
      refine XR_wa (opl_call (put_spec (n := x.2 - rL x.1) (k := ((rW x.1 : Nat) : Int)) st.here (by omega) (by simp only [List.length_append, codeBits_length]; have h15 : (plens ls).getD x.1 0 ≤ 15 := by { rw [getD_eq (by omega)]; exact hok.2.2.1 _ (List.getElem_mem _) }; omega)) rfl (by kernel_rfl)) rfl rfl rfl ?_
      rintro _ hp15 ⟨rfl, st15⟩
      rw [wd_nat (by have := rW_le x.1; omega)] at st15
      replace st := st.trans st15
      refine XR_nil (X_blk ?_)
      refine X_rnd (st.obj_at 3 rfl) ⟨rfl, ?_⟩
      replace st := st.loop 3 .ready none rfl
      simp only [List.set_cons_zero, List.set_cons_succ] at st
      have e : bs ++ putHead ls 19 ++ s.flatMap (partBits (plens ls)) ++ codeBits (val (plens ls) x.1) ((plens ls).getD x.1 0) ++ bitsN (rW x.1) (x.2 - rL x.1) = bs ++ putHead ls 19 ++ (s ++ [x]).flatMap (partBits (plens ls)) := by
       rw [List.flatMap_append]
       simp [partBits]
      rw [e] at st
      replace st := St.reF [_, _, _, _, _, _] 6 st [2, 3, 0, 1, 4, 5] (by decide)
      simp only [List.map_cons, List.map_nil, getR, List.cons_append, List.nil_append] at st
      exact st.tail
     rintro _ h' st3
     subst hJR
     simp only [List.cons_append, List.nil_append] at st3
     refine .inl ⟨_, st12.trans st3, fun hp3 st4 => ?_⟩
     have st := st4
     refine X_blk (X_seq (X_reg (XA rfl rfl rfl (XR_nil ?_))))
     refine X_retM2 (d := d2) (e := d1) (.cons (.tmp rfl) .nil) ?_ (st.obj_at 5 rfl) ((st.put 5 (.deferred none) rfl).obj_at 7 rfl)
     replace st := (st.put 5 (.deferred none) rfl).put 7 (.deferred none) rfl
     simp only [List.set_cons_zero, List.set_cons_succ] at st
     replace st := St.reF [_, _, _, _, _, _, _, _] 8 st [0, 2, 3, 4, 5, 6, 7, 1] (by decide)
     simp only [List.map_cons, List.map_nil, getR, List.cons_append, List.nil_append] at st
     refine ⟨rfl, ?_⟩
     unfold putR
     rw [← List.append_assoc]
     exact st.tail.tail.tail.tail.tail.tail.tail
end Go.Bn
end

section
set_option linter.unusedVariables false
set_option linter.unusedSimpArgs false
set_option maxHeartbeats 4000000
set_option maxRecDepth 20000
namespace Go.Bn
open Go Proofs
theorem castN_iV (z : List Nat) : z.map nV = (castI z).map iV := by unfold castI; rw [List.map_map]; rfl
theorem castN_len (z : List Nat) : (castI z).length = z.length := by unfold castI; rw [List.length_map]
theorem St.rdM {B : Nat} {h0 hp : Heap} {rs : List Res} (s : St B h0 hp rs) {e sz n c : Nat} {A : Option Addr} {vs : List Value} (h : Bn.row e sz (.slice A n c) vs ∈ rs) : Rd hp A vs := by
 obtain ⟨j, hj, he⟩ := List.getElem_of_mem h
 exact (s.rdS j (by rw [List.getElem?_eq_getElem hj, he])).2
theorem lensI_cast {ws : List Nat} (h2 : ws.length ≤ 320) (hw : ∀ x ∈ ws, x ≤ 1073741824) : lensI (castI ws) = lensW ws := by
 have hb : boundedB 1073741824 (castI ws) := by
  refine ⟨by rw [castN_len]; exact h2, fun x hx => ?_⟩
  obtain ⟨y, hy, rfl⟩ := List.mem_map.1 hx
  have := hw y hy
  omega
 have he : errW (castI ws) = 0 := by
  unfold errW
  rw [castN_len, if_neg (by omega), if_pos hb]
 unfold lensI
 rw [if_pos he, castI_toNat]
theorem putL_cast {ls : List Nat} (h : lensOK ls) : putL (castI ls) = putR ls := by
 have hb : ∀ x ∈ castI ls, 0 ≤ x ∧ x ≤ 15 := by
  intro x hx
  obtain ⟨y, hy, rfl⟩ := List.mem_map.1 hx
  have := h.2.2.1 y hy
  omega
 have he : putE (castI ls) = 0 := by
  unfold putE
  rw [castN_len, if_neg (by have := h.1; have := h.2.1; omega), if_pos hb]
 unfold putL
 rw [if_pos he, castI_toNat]
theorem btable_spec {B p n c : Nat} {A : Option Addr} {ws : List Nat} {bs : List Bool} {F : List Res} {h0 : Heap} (st0 : St B h0 h0 (wrR p bs :: F)) (hrB : ∀ h' rs, St B h0 h' (rs ++ F) → Rd h' A (ws.map nV)) (hl : ws.length = n) (h1 : 1 ≤ n) (h2 : n ≤ 320) (hw : ∀ x ∈ ws, x ≤ 1073741824) (hs : (syms ws).length ≠ 0) (hbs : bs.length ≤ 1048576) :
  Ret Tryz.prog 43 [.pointer (some ⟨p, 0, none⟩), .slice A n c] h0 fun v h' => ∃ q, v = .pointer (some ⟨q, 0, none⟩) ∧ St B h0 h' (wrR p (bs ++ putR (lensW ws)) :: codeR q (lensW ws) :: F) := by
 have hok := lensW_ok (ws := ws) (by omega) (by omega) hs
 refine ret_of_X Tryz.func43 rfl rfl fun w0 hw0 => ?_
 simp only [argE, Nat.zero_add, Nat.reduceAdd]
 have st := st0
 refine X_seq (X_reg (XA rfl rfl rfl (XR_nil (X_seq (X_reg (XV rfl rfl rfl ?_))))))
 refine XR_wa (opl_call (lengths_spec (li := castI ws) (by rw [← castN_iV]; exact hrB _ [_] st) (by rw [castN_len]; exact hl) (by omega)) rfl (by kernel_rfl)) rfl rfl rfl ?_
 rintro _ hp1 ⟨v1, rfl, st1⟩
 rw [lensI_cast (by omega) hw] at st1
 replace st := st.join st1
 clear st1
 obtain ⟨A1, n1, c1, rfl, hl1, _, _, hrd1⟩ := st.row 0 rfl
 rw [List.length_map, lensW_length, Nat.mul_one] at hl1
 refine XV rfl rfl rfl (XR_a (op_extract rfl rfl) rfl rfl (XR_a (op_extract rfl rfl) rfl rfl (XA rfl rfl rfl (XA rfl rfl rfl (XR_nil (X_seq (X_reg (XV rfl rfl rfl ?_))))))))
 refine XR_wa (opl_call (cnew_spec (li := castI (lensW ws)) (by rw [← castN_iV]; exact hrd1) (by rw [castN_len, lensW_length]; exact hl1) (by omega)) rfl (by kernel_rfl)) rfl rfl rfl ?_
 rintro _ hp2 ⟨w, rfl, hx2, hyes, _⟩
 obtain ⟨q, rfl, stq⟩ := hyes (rightC_cast hok)
 rw [castI_toNat] at stq
 replace st := st.join stq
 clear stq hyes
 replace st := St.reF [_, _, _] 3 st [2, 0, 1] (by decide)
 simp only [List.map_cons, List.map_nil, getR, List.cons_append, List.nil_append] at st
 refine XV rfl rfl rfl (XR_a (op_extract rfl rfl) rfl rfl (XR_a (op_extract rfl rfl) rfl rfl (XA rfl rfl rfl (XA rfl rfl rfl (XR_nil (X_seq (X_reg (XV rfl rfl rfl (XV rfl rfl rfl ?_)))))))))
 refine XR_wa (opl_call (rput_spec (li := castI (lensW ws)) st.here (fun h' rs hs => by rw [← castN_iV]; exact hs.rdM (List.mem_append_right _ (List.mem_cons_of_mem _ List.mem_cons_self))) (by rw [castN_len, lensW_length]; exact hl1) (by omega) hbs) rfl (by kernel_rfl)) rfl rfl rfl ?_
 rintro _ hp3 ⟨rfl, st3⟩
 replace st := st.trans st3
 rw [putL_cast hok] at st
 refine XR_nil (X_seq (X_reg (XV rfl rfl rfl (XA rfl rfl rfl (XR_nil ?_)))))
 refine X_ret (.cons (.tmp rfl) .nil) ?_
 exact ⟨q, rfl, (St.reF [_, _, _] 3 st [2, 0, 1] (by decide)).tail⟩
theorem bone_spec {B p q : Nat} {ls : List Nat} {k : Kls} {bs : List Bool} {F : List Res} {h0 : Heap} (st0 : St B h0 h0 (wrR p bs :: codeR q ls :: F)) (hok : lensOK ls) (hk : 0 ≤ k.ext ∧ k.ext < 4294967296) (hbs : bs.length ≤ 1099511626000) :
  Ret Tryz.prog 44 [.pointer (some ⟨p, 0, none⟩), .pointer (some ⟨q, 0, none⟩), .agg (clsV k).toArray] h0 fun _ h' => St B h0 h' (wrR p (bs ++ symB ls k) :: codeR q ls :: F) := by
 obtain ⟨x, hx⟩ : ∃ x : Nat, k.ext = x := ⟨k.ext.toNat, by omega⟩
 have hl15 := lens_le hok k.num
 refine ret_of_X Tryz.func44 rfl rfl fun w0 hw0 => ?_
 simp only [argE, Nat.zero_add, Nat.reduceAdd]
 have st := st0
 refine X_seq (X_reg ?_)
 refine XR_wa (opl_bx (cs := clsV k) rfl rfl) rfl rfl rfl ?_
 rintro _ hp ⟨p5, rfl, hnew⟩
 replace st := st.new hnew
 refine XR_nil (X_seq (X_reg (XV rfl rfl rfl (XV rfl rfl rfl ?_))))
 first | refine XR_a (op_field0 rfl rfl) rfl rfl ?_ | refine XR_a (op_fieldn rfl rfl) rfl rfl ?_
 refine XR_a (op_ld (st.cell 0 (i := 0) rfl rfl) rfl rfl rfl) rfl rfl ?_
 replace st := St.reF [_, _, _] 3 st [1, 2, 0] (by decide)
 simp only [List.map_cons, List.map_nil, getR, List.cons_append, List.nil_append] at st
 refine XR_wa (opl_call (cput_spec st.here hok (by omega)) rfl (by kernel_rfl)) rfl rfl rfl ?_
 rintro _ hp2 ⟨rfl, st2⟩
 replace st := st.trans st2
 clear st2
 refine XR_nil (X_reg (XV rfl rfl rfl ?_))
 first | refine XR_a (op_field0 rfl rfl) rfl rfl ?_ | refine XR_a (op_fieldn rfl rfl) rfl rfl ?_
 refine XR_a (op_ld (st.cell 2 (i := 2) rfl rfl) rfl rfl rfl) rfl rfl ?_
 refine XR_as (.int .u32 ((x : Nat) : Int)) (congrArg (Value.int .u32) hx) ?_
 first | refine XR_a (op_field0 rfl rfl) rfl rfl ?_ | refine XR_a (op_fieldn rfl rfl) rfl rfl ?_
 refine XR_a (op_ld (st.cell 2 (i := 1) rfl rfl) rfl rfl rfl) rfl rfl ?_
 refine XR_wa (opl_call (put_spec (n := x) st.here (by omega) (by rw [List.length_append, codeBits_length]; omega)) rfl (by kernel_rfl)) rfl rfl rfl ?_
 rintro _ hp3 ⟨rfl, st2⟩
 replace st := st.trans st2
 clear st2
 have he : bs ++ codeBits (val ls k.num.toNat) (lenAt ls k.num) ++ bitsN (wd 32 k.bits) x = bs ++ symB ls k := by unfold symB; rw [hx, Int.toNat_natCast, List.append_assoc]
 rw [he] at st
 refine XR_nil ?_
 refine X_end .nil ?_
 exact (St.reF [_, _, _] 3 st [2, 0, 1] (by decide)).tail
theorem splitY_ok {t : Tok} (h : t.right) (hb : 0 ≤ t.byte ∧ t.byte < 256) : (0 ≤ (splitY t).a.ext ∧ (splitY t).a.ext < 4294967296) ∧ (0 ≤ (splitY t).b.ext ∧ (splitY t).b.ext < 4294967296) ∧ 0 ≤ (splitY t).a.num ∧ (splitY t).a.num < 273 ∧ 0 ≤ (splitY t).b.num ∧ (splitY t).b.num < 30 := by
 obtain ⟨_, h1, h2, _, h3, h4⟩ := join_split h hb
 refine ⟨?_, ?_, h1, h2, h3, h4⟩
 ·unfold splitY
  split
  ·simp
  ·rename_i h0
   unfold Tok.right at h
   rw [if_neg h0] at h
   simp only [klsOf]
   omega
 ·unfold splitY
  split
  ·simp [Kls.nil]
  ·rename_i h0
   unfold Tok.right at h
   rw [if_neg h0] at h
   simp only [klsOf]
   omega
theorem bput_spec {B p n c : Nat} {A : Option Addr} {ts : List Tok} {bs : List Bool} {F : List Res} {h0 : Heap} (st0 : St B h0 h0 (wrR p bs :: F)) (hrB : ∀ h' rs, St B h0 h' (rs ++ F) → Rd h' A (ts.flatMap tokV)) (hl : ts.length = n) (hn : n ≤ 17592186044416) (hby : ∀ t ∈ ts, 0 ≤ t.byte ∧ t.byte < 256) (hbs : bs.length ≤ 1000000) :
  Ret Tryz.prog 16 [.pointer (some ⟨p, 0, none⟩), .slice A n c] h0 fun v h' => v = nV (if rightL ts then 0 else 3) ∧ St B h0 h' (wrR p (bs ++ if rightL ts then blockB (ts.map splitY) else []) :: F) := by
 refine ret_of_X Tryz.func16 rfl rfl fun w0 hw0 => ?_
 simp only [argE, Nat.zero_add, Nat.reduceAdd]
 have st := st0
 refine X_seq (X_reg (XA rfl rfl rfl (XR_nil (X_seq (X_seq (X_reg (XV rfl rfl rfl ?_)))))))
 refine XR_a (op_ptr_nil rfl rfl rfl) rfl rfl ?_
 refine XR_nil (X_else rfl (X_skip (X_seq (X_reg (XV rfl rfl rfl ?_)))))
 refine XR_wa (opl_call (brows_spec (St.start h0) (fun h' hh => (hrB h0 [_] st).ext hh) hl hn hby) rfl (by kernel_rfl)) rfl rfl rfl ?_
 rintro _ hp1 ⟨w, rfl, hyes, hno⟩
 refine XV rfl rfl rfl ?_
 by_cases hR : rightL ts
 ·replace st := st.join (hyes hR)
  rw [decide_eq_true hR, if_pos hR, if_pos hR]
  clear hyes hno
  have hY : ∀ y ∈ ts.map splitY, (0 ≤ y.a.ext ∧ y.a.ext < 4294967296) ∧ (0 ≤ y.b.ext ∧ y.b.ext < 4294967296) ∧ 0 ≤ y.a.num ∧ y.a.num < 273 ∧ 0 ≤ y.b.num ∧ y.b.num < 30 := fun y hy => by
   obtain ⟨t, ht, rfl⟩ := List.mem_map.1 hy
   exact splitY_ok (hR.2 t ht) (hby t ht)
  obtain ⟨ys, hys⟩ : ∃ ys, ts.map splitY = ys := ⟨_, rfl⟩
  have hyl : ys.length = n := by rw [← hys, List.length_map]; exact hl
  have hn6 := hR.1
  rw [hys] at st hY ⊢
  obtain ⟨A1, n1, c1, rfl, hl1, _⟩ := st.row 0 rfl
  rw [flat_length _ 7 (fun _ => rfl)] at hl1
  obtain rfl : n = n1 := by omega
  have hb30 : ∀ y ∈ ys, y.b.num.toNat < 30 := fun y hy => by have := hY y hy; omega
  have hokA := lA_ok ys
  have hokB := lB_ok hb30
  refine XR_a (op_extract rfl rfl) rfl rfl (XR_a (op_extract rfl rfl) rfl rfl (XA rfl rfl rfl (XA rfl rfl rfl (XR_nil (X_seq (X_seq (X_reg (XV rfl rfl rfl ?_))))))))
  first | refine XR_a (op_notd rfl) rfl rfl ?_ | refine XR_a (op_not rfl) rfl rfl ?_
  refine XR_as (.bool false) rfl ?_
  refine XR_nil (X_else rfl (X_skip (X_seq (X_reg (XV rfl rfl rfl ?_)))))
  refine XR_wa (opl_call (bweigh1_spec (St.start hp1) (fun h' hh => (st.rdS 0 rfl).2.ext hh) hyl (by omega) (fun y hy => (hY y hy).2.2)) rfl (by kernel_rfl)) rfl rfl rfl ?_
  rintro _ hp2 ⟨w1, w2, rfl, st2⟩
  replace st := st.join st2
  clear st2
  obtain ⟨Aa, na, ca, rfl, hla, _⟩ := st.row 0 rfl
  obtain ⟨Ab, nb, cb, rfl, hlb, _⟩ := st.row 1 rfl
  rw [List.length_map, firstW_len, Nat.mul_one] at hla
  rw [List.length_map, secondW_len, Nat.mul_one] at hlb
  subst hla hlb
  replace st := St.reF [_, _, _, _] 4 st [3, 0, 1, 2] (by decide)
  simp only [List.map_cons, List.map_nil, getR, List.cons_append, List.nil_append] at st
  refine XV rfl rfl rfl (XR_a (op_extract rfl rfl) rfl rfl (XR_a (op_extract rfl rfl) rfl rfl (XA rfl rfl rfl (XA rfl rfl rfl (XR_nil (X_seq (X_reg (XV rfl rfl rfl (XV rfl rfl rfl ?_)))))))))
  refine XR_wa (opl_call (btable_spec st.here (fun h' rs hs => hs.rdM (List.mem_append_right _ List.mem_cons_self)) (firstW_len ys) (by omega) (by omega) (fun x hx => by have := firstW_le ys x hx; omega) (firstW_syms ys) (by omega)) rfl (by kernel_rfl)) rfl rfl rfl ?_
  rintro _ hp3 ⟨q1, rfl, st3⟩
  replace st := st.trans st3
  clear st3
  rw [show lensW (firstW ys) = lA ys from rfl] at st
  have hlA := putR_len hokA
  rw [show (lA ys).length = 273 by unfold lA; rw [lensW_length, firstW_len]] at hlA
  refine XV rfl rfl rfl (XV rfl rfl rfl ?_)
  refine XR_wa (opl_call (btable_spec st.here (fun h' rs hs => hs.rdM (List.mem_append_right _ (List.mem_cons_of_mem _ (List.mem_cons_of_mem _ List.mem_cons_self)))) (secondW_len ys) (by omega) (by omega) (fun x hx => by have := secondW_le ys x hx; omega) (secondW_syms hb30) (by rw [List.length_append]; omega)) rfl (by kernel_rfl)) rfl rfl rfl ?_
  rintro _ hp4 ⟨q2, rfl, st3⟩
  replace st := st.trans st3
  clear st3
  rw [show lensW (secondW ys) = lB ys from rfl] at st
  have hlB := putR_len hokB
  rw [show (lB ys).length = 30 by unfold lB; rw [lensW_length, secondW_len]] at hlB
  replace st := (St.reF [_, _, _, _, _, _] 6 st [3, 4, 0, 2, 1, 5] (by decide)).tail.tail
  simp only [List.map_cons, List.map_nil, getR, List.cons_append, List.nil_append] at st
  obtain ⟨la, hla⟩ : ∃ x, lA ys = x := ⟨_, rfl⟩
  obtain ⟨lb, hlb⟩ : ∃ x, lB ys = x := ⟨_, rfl⟩
  have hbl : blockB ys = putR la ++ putR lb ++ ys.flatMap (syB la lb) ++ codeBits (val la 256) (lenAt la 256) := by unfold blockB; rw [hla, hlb]
  rw [hla] at st hokA hlA
  rw [hlb] at st hokB hlB
  rw [hbl]
  have hfl := fun i => flat_bd (syB la lb) 94 (syB_len hokA hokB) (ys.take i)
  refine XA rfl rfl rfl (XA rfl rfl rfl (XR_nil (X_seq (X_seq (X_reg (XV rfl rfl rfl ?_))))))
  refine XR_a (op_len rfl rfl rfl) rfl rfl ?_
  refine XV rfl rfl rfl (XR_nil (X_block ?_))
  refine X_loop (fun i => n - i) (fun i => [(0, .pointer (some ⟨p, 0, none⟩)), (9, .pointer (some ⟨q1, 0, none⟩)), (10, .pointer (some ⟨q2, 0, none⟩)), (33, .slice A1 n c1), (34, nV n), (35, nV i)])
   (fun (i : Nat) hp => i ≤ n ∧ St B h0 hp (wrR p (bs ++ putR la ++ putR lb ++ (ys.take i).flatMap (syB la lb)) :: codeR q1 la :: codeR q2 lb :: row 94 7 (.slice A1 n c1) (ys.flatMap syV) :: F))
   0 (.cons rfl (.cons rfl (.cons rfl (.cons rfl (.cons rfl (.cons rfl (.nil _))))))) ⟨Nat.zero_le _, by rw [List.take_zero, List.flatMap_nil, List.append_nil]; exact st⟩ ?_
  clear st
  rintro i hp ⟨hi, st⟩
  have hfi := hfl i
  rw [List.length_take] at hfi
  refine X_seq (X_reg ?_)
  refine XR_a (op_lss rfl rfl) rfl rfl ?_
  refine XR_nil (X_seq ?_)
  refine X_if rfl (fun h => ?_) (fun h => ?_)
  ·have hil : i < ys.length := by omega
   obtain ⟨y, hy⟩ : ∃ y, ys[i] = y := ⟨_, rfl⟩
   have hyo := hY y (hy ▸ List.getElem_mem hil)
   obtain ⟨gy, oy, rfl, hcy⟩ := Rd.flat syV 7 (st.rdS 3 rfl).2 (fun _ => rfl) (by omega) (by omega)
   have hcx := hcy i hil
   rw [hy] at hcx
   have htk : (ys.take (i + 1)).flatMap (syB la lb) = (ys.take i).flatMap (syB la lb) ++ syB la lb y := by rw [List.take_succ_eq_append_getElem hil, hy, List.flatMap_append]; simp
   refine X_skip (X_seq (X_block (X_seq (X_reg ?_))))
   refine XR_a (op_index (i := i) rfl rfl rfl (by omega)) rfl rfl ?_
   refine XR_a (op_ldA (vs := syV y) hcx rfl rfl rfl rfl) rfl rfl ?_
   refine XR_wa (opl_new rfl) rfl rfl rfl ?_
   rintro _ hp5 ⟨p12, rfl, hnew⟩
   replace st := st.new hnew
   refine XR_wn (opl_store_whole (us := syV y) st 0 rfl rfl rfl rfl rfl (syV_one _) rfl) rfl rfl fun _ hp6 st => ?_
   simp only [List.set_cons_zero, List.set_cons_succ] at st
   refine XR_nil (X_seq (X_reg (XV rfl rfl rfl (XV rfl rfl rfl ?_))))
   first | refine XR_a (op_field0 rfl rfl) rfl rfl ?_ | refine XR_a (op_fieldn rfl rfl) rfl rfl ?_
   refine XR_a (op_ldA (vs := clsV y.a) (st.part 0 0 [] (clsV y.a) (clsV y.b ++ [.bool y.m]) rfl rfl) rfl rfl rfl rfl) rfl rfl ?_
   replace st := St.reF [_, _, _, _, _] 5 st [1, 2, 0, 3, 4] (by decide)
   simp only [List.map_cons, List.map_nil, getR, List.cons_append, List.nil_append] at st
   refine XR_wa (opl_call (bone_spec st.here hokA hyo.1 (by simp only [List.length_append]; omega)) rfl (by kernel_rfl)) rfl rfl rfl ?_
   rintro _ hp7 st2
   replace st := st.trans st2
   clear st2
   refine XR_nil (X_seq (X_reg ?_))
   first | refine XR_a (op_field0 rfl rfl) rfl rfl ?_ | refine XR_a (op_fieldn rfl rfl) rfl rfl ?_
   refine XR_a (op_ld (st.cell 2 (i := 6) rfl rfl) rfl rfl rfl) rfl rfl ?_
   refine XR_as (.bool (decide (y.m = true))) (congrArg Value.bool (by cases y.m <;> rfl)) ?_
   refine XR_nil ?_
   refine X_if rfl (fun h => ?_) (fun h => ?_)
   ·refine X_reg (XV rfl rfl rfl (XV rfl rfl rfl ?_))
    first | refine XR_a (op_field0 rfl rfl) rfl rfl ?_ | refine XR_a (op_fieldn rfl rfl) rfl rfl ?_
    refine XR_a (op_ldA (vs := clsV y.b) (st.part 2 3 (clsV y.a) (clsV y.b) [.bool y.m] rfl rfl) rfl rfl rfl rfl) rfl rfl ?_
    replace st := St.reF [_, _, _, _, _] 5 st [0, 3, 1, 2, 4] (by decide)
    simp only [List.map_cons, List.map_nil, getR, List.cons_append, List.nil_append] at st
    have hsl := symB_len hokA y.a
    refine XR_wa (opl_call (bone_spec st.here hokB hyo.2.1 (by simp only [List.length_append]; omega)) rfl (by kernel_rfl)) rfl rfl rfl ?_
    rintro _ hp8 st2
    replace st := st.trans st2
    clear st2
    refine XR_nil (X_blk (X_reg ?_))
    first | refine XR_a (op_addN (n := 1) rfl rfl (by simp only [inK]; omega)) rfl rfl ?_ | refine XR_a (op_addI rfl rfl (by simp only [inK]; omega)) rfl rfl ?_ | refine XR_a (op_add rfl rfl) rfl rfl ?_
    refine XV rfl rfl rfl (XR_nil ?_)
    have he : bs ++ putR la ++ putR lb ++ (ys.take i).flatMap (syB la lb) ++ symB la y.a ++ symB lb y.b = bs ++ putR la ++ putR lb ++ (ys.take (i + 1)).flatMap (syB la lb) := by
     rw [htk]; unfold syB; rw [if_pos h]; simp only [List.append_assoc]
    rw [he] at st
    replace st := (St.reF [_, _, _, _, _] 5 st [3, 0, 2, 1, 4] (by decide)).tail
    exact X_again (i + 1) (.cons rfl (.cons rfl (.cons rfl (.cons rfl (.cons rfl (.cons rfl (.nil _))))))) ⟨by omega, st⟩ (by omega)
   ·refine X_skip (X_blk (X_reg ?_))
    first | refine XR_a (op_addN (n := 1) rfl rfl (by simp only [inK]; omega)) rfl rfl ?_ | refine XR_a (op_addI rfl rfl (by simp only [inK]; omega)) rfl rfl ?_ | refine XR_a (op_add rfl rfl) rfl rfl ?_
    refine XV rfl rfl rfl (XR_nil ?_)
    have he : bs ++ putR la ++ putR lb ++ (ys.take i).flatMap (syB la lb) ++ symB la y.a = bs ++ putR la ++ putR lb ++ (ys.take (i + 1)).flatMap (syB la lb) := by
     rw [htk]; unfold syB; rw [if_neg h, List.append_nil]; simp only [List.append_assoc]
    rw [he] at st
    replace st := (St.reF [_, _, _, _, _] 5 st [2, 0, 1, 3, 4] (by decide)).tail
    exact X_again (i + 1) (.cons rfl (.cons rfl (.cons rfl (.cons rfl (.cons rfl (.cons rfl (.nil _))))))) ⟨by omega, st⟩ (by omega)
  ·rw [List.take_of_length_le (by omega)] at st hfi
   refine X_exit rfl (X_seq (X_reg (XV rfl rfl rfl (XV rfl rfl rfl ?_))))
   refine XR_wa (opl_call (cput_spec (s := 256) st.here hokA (by simp only [List.length_append]; omega)) rfl (by kernel_rfl)) rfl rfl rfl ?_
   rintro _ hp9 ⟨rfl, st2⟩
   replace st := st.trans st2
   clear st2
   refine XR_nil (X_seq (X_reg (XA rfl rfl rfl (XR_nil ?_))))
   refine X_ret (.cons (.tmp rfl) .nil) ?_
   have he : bs ++ putR la ++ putR lb ++ ys.flatMap (syB la lb) ++ codeBits (val la (256 : Int).toNat) (lenAt la 256) = bs ++ (putR la ++ putR lb ++ ys.flatMap (syB la lb) ++ codeBits (val la 256) (lenAt la 256)) := by
    simp only [List.append_assoc]; rfl
   rw [he] at st
   exact ⟨rfl, (St.reF [_, _, _, _] 4 st [1, 2, 3, 0] (by decide)).tail.tail.tail⟩
 ·replace st := st.ext (hno hR).low
  rw [decide_eq_false hR, if_neg hR, if_neg hR]
  clear hyes hno
  refine XR_a (op_extract rfl rfl) rfl rfl (XR_a (op_extract rfl rfl) rfl rfl (XA rfl rfl rfl (XA rfl rfl rfl (XR_nil (X_seq (X_seq (X_reg (XV rfl rfl rfl ?_))))))))
  first | refine XR_a (op_notd rfl) rfl rfl ?_ | refine XR_a (op_not rfl) rfl rfl ?_
  refine XR_as (.bool true) rfl ?_
  refine XR_nil (X_then rfl (X_seq (X_reg (XA rfl rfl rfl (XR_nil ?_)))))
  refine X_ret (.cons (.tmp rfl) .nil) ?_
  rw [List.append_nil]
  exact ⟨rfl, st⟩
end Go.Bn
end

section
set_option linter.unusedVariables false
set_option linter.unusedSimpArgs false
set_option maxHeartbeats 4000000
set_option maxRecDepth 20000
namespace Go.Bn
open Go Proofs
section
variable {P : Program} {E : Env} {hp : Heap} {cl : Cls} {d : Option Tmp} {ty : TypeId} {pos : String} {af : Array Edge} {g : Option (Nat × Bool)} {x : Operand} {t : TypeId}
end
theorem blockB_len {ys : List Sy} (hb : ∀ y ∈ ys, y.b.num.toNat < 30) : (blockB ys).length ≤ 7000 + 94 * ys.length := by
 have hA := lA_ok ys
 have hB := lB_ok hb
 have h1 := putR_len hA
 have h2 := putR_len hB
 have h3 := flat_bd (syB (lA ys) (lB ys)) 94 (syB_len hA hB) ys
 have h4 := lens_le hA 256
 rw [lA_len] at h1
 rw [lB_len] at h2
 unfold blockB
 simp only [List.length_append, codeBits_length]
 omega
theorem split_b30 {ts : List Tok} (hR : rightL ts) (hby : ∀ t ∈ ts, 0 ≤ t.byte ∧ t.byte < 256) : ∀ y ∈ ts.map splitY, y.b.num.toNat < 30 := fun y hy => by
 obtain ⟨t, ht, rfl⟩ := List.mem_map.1 hy
 have := splitY_ok (hR.2 t ht) (hby t ht)
 omega
end Go.Bn
end
