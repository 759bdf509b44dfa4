/- Packed texts of a claim: what its theorem uses, joined. -/
import Derived.Test.YtoodeecmplpndaaGreatPkBlockTakes16
section
set_option linter.unusedVariables false
set_option linter.unusedSimpArgs false
set_option maxHeartbeats 4000000
set_option maxRecDepth 20000
namespace Go.Bn
open Go Proofs
section
variable {P : Program} {E : Env} {hp : Heap} {cl : Cls} {d : Option Tmp} {ty : TypeId} {pos : String} {af : Array Edge} {g : Option (Nat × Bool)} {x : Operand} {t : TypeId}
theorem opl_litA {e sz b : Nat} {zs us : List Value} {ua : Array Value} (hx : ev E x = some (.agg ua)) (ht : sliceI P t = some (e, sz, b, zs)) (hn : Nat.ble (1 * sz) 16777216 = true) (hs : Nat.blt 0 (1 * sz) = true) (hc : sliceCells 1 sz zs [(0, .agg ua)] = some us.toArray) (hl : us.length = 1 * sz) :
  OpL P ⟨d, .buildSlice t 1 #[(0, x)], ty, pos, af, g⟩ E hp (fun u hp' => New (row e sz u us) hp hp') := by
 intro n a w ho hw K hK
 have hps : evP E (#[(0, x)] : Array (Nat × Operand)).toList = some [(0, .agg ua)] := by simp [evP, hx]
 refine opl_buildSlice hps ht hn hs hc n a w ho hw K fun v' w' hi ⟨h1, h2⟩ => hK v' w' hi ?_
 rw [h1, h2]
 exact new_row hp e sz 1 us hl (by simp only [maxLen]; omega)
end
theorem blockB_len {ys : List Sy} (hb : ∀ y ∈ ys, y.b.num.toNat < 30) : (blockB ys).length ≤ 7000 + 94 * ys.length := by
 have hA := lA_ok ys
 have hB := lB_ok hb
 have h1 := putR_len hA
 have h2 := putR_len hB
 have h3 := flat_bd (syB (lA ys) (lB ys)) 94 (syB_len hA hB) ys
 have h4 := lens_le hA 256
 rw [lA_len] at h1
 rw [lB_len] at h2
 unfold blockB
 simp only [List.length_append, codeBits_length]
 omega
theorem split_b30 {ts : List Tok} (hR : rightL ts) (hby : ∀ t ∈ ts, 0 ≤ t.byte ∧ t.byte < 256) : ∀ y ∈ ts.map splitY, y.b.num.toNat < 30 := fun y hy => by
 obtain ⟨t, ht, rfl⟩ := List.mem_map.1 hy
 have := splitY_ok (hR.2 t ht) (hby t ht)
 omega
theorem lives13 (h0 : Heap) : Ret Tryz.prog 9 [] h0 fun v h' => v = .bool true ∧ Ext h0 h' := by
 have hR : rightL [(⟨7, 0, 0⟩ : Tok)] := by decide
 have hby : ∀ t ∈ [(⟨7, 0, 0⟩ : Tok)], 0 ≤ t.byte ∧ t.byte < 256 := by decide
 have hbl := blockB_len (split_b30 hR hby)
 have hdis : distOK 0 [(⟨7, 0, 0⟩ : Tok)] := ⟨by decide, trivial⟩
 have hback := fun Z => blockT_back hR hby hdis (most := 1) (by decide) Z
 rw [List.length_map] at hbl
 obtain ⟨BL, hBL⟩ : ∃ BL, blockB ([(⟨7, 0, 0⟩ : Tok)].map splitY) = BL := ⟨_, rfl⟩
 rw [hBL] at hbl
 simp only [hBL] at hback
 have hbl : BL.length ≤ 7094 := by simpa using hbl
 refine ret_of_X Tryz.func9 rfl rfl fun w0 hw0 => ?_
 simp only [argE, Nat.zero_add, Nat.reduceAdd]
 refine X_seq (X_reg (XR_a (op_assign rfl) rfl rfl (XR_nil (X_seq (X_reg ?_)))))
 refine XR_wa (opl_new rfl) rfl rfl rfl ?_
 rintro _ hp ⟨p1, rfl, hnew⟩
 have st := ((St.start h0).new hnew).wr0
 refine XR_nil (X_seq (X_reg ?_))
 refine XR_a (op_build (ps := [(0, .int .u8 7)]) (cs := (tokV ⟨7, 0, 0⟩).toArray) rfl rfl) rfl rfl ?_
 refine XR_wa (opl_litA (us := tokV ⟨7, 0, 0⟩) rfl rfl rfl rfl (by kernel_rfl) rfl) rfl rfl rfl ?_
 rintro v2 hp2 hnew
 replace st := (st.new hnew).perm (List.Perm.swap _ _ _)
 obtain ⟨A2, n2, c2, rfl, hl2, _⟩ := st.row 1 rfl
 obtain rfl : n2 = 1 := by simp at hl2; omega
 refine XR_wa (opl_call (bput_spec (n := 1) (ts := [⟨7, 0, 0⟩]) st.here (fun h' rs hs => hs.rdM (List.mem_append_right _ List.mem_cons_self)) rfl (by omega) hby (by simp)) rfl (by kernel_rfl)) rfl rfl rfl ?_
 rintro _ hp3 ⟨rfl, st3⟩
 rw [if_pos hR, hBL] at st3
 rw [if_pos hR]
 replace st := st.trans st3
 rw [List.nil_append] at st
 clear st3
 refine XR_a (op_assign rfl) rfl rfl (XR_nil (X_seq (X_reg ?_)))
 refine XR_wa (opl_call (wbytes_spec st.here (by omega)) rfl (by kernel_rfl)) rfl rfl rfl ?_
 rintro v3 hp4 st4
 have hpk := bitsB_pack BL
 have hpkl := pack_length BL
 obtain ⟨pk, hpke⟩ : ∃ pk, pack BL = pk := ⟨_, rfl⟩
 rw [hpke] at st4 hpk hpkl
 obtain ⟨A3, n3, c3, rfl, hlen3, _, _, hrd3⟩ := st4.row 0 rfl
 rw [List.length_map, Nat.mul_one] at hlen3
 have hx4 : Ext h0 hp4 := st.low.trans (st4.low.mono st.low.size)
 refine XR_wa (opl_call (rnew_spec) rfl (by kernel_rfl)) rfl rfl rfl ?_
 rintro _ hp5 ⟨q, rfl, st5⟩
 refine XR_wa (opl_call (btake_spec (most := 1) st5.here (fun h' hl' => hrd3.ext (st5.low.trans hl')) hlen3 (by omega) (by simp only [inK]; omega)) rfl (by kernel_rfl)) rfl rfl rfl ?_
 rintro _ hp6 ⟨w, a', rfl, _, _, st6⟩
 rw [hpk, hback] at st6
 rw [hpk, hback]
 simp only at st6
 replace st6 := st5.trans st6
 obtain ⟨A6, n6, c6, rfl, hl6, _⟩ := st6.row0 1 rfl (by simp)
 obtain rfl : n6 = 1 := by simp at hl6; omega
 refine XR_a (op_move rfl) rfl rfl (XR_a (op_extract rfl rfl) rfl rfl (XR_a (op_extract rfl rfl) rfl rfl (XR_a (op_assign rfl) rfl rfl (XR_a (op_assign rfl) rfl rfl (XR_nil ?_)))))
 refine X_seq (X_reg (XR_a (op_move rfl) rfl rfl ?_))
 refine XR_a (op_eql rfl rfl) rfl rfl ?_
 refine XR_as (.bool true) (congrArg Value.bool (decide_eq_true rfl)) ?_
 refine XR_a (op_move rfl) rfl rfl (XR_a (op_move rfl) rfl rfl ?_)
 refine XR_a (op_eql rfl rfl) rfl rfl ?_
 refine XR_as (.bool true) (congrArg Value.bool (decide_eq_true rfl)) ?_
 refine XR_a (op_pick_t rfl rfl) rfl rfl (XR_a (op_move rfl) rfl rfl (XR_a (op_move rfl) rfl rfl ?_))
 refine XR_a (op_len rfl rfl rfl) rfl rfl ?_
 refine XR_a (op_eql rfl rfl) rfl rfl ?_
 refine XR_as (.bool true) (congrArg Value.bool (decide_eq_true rfl)) ?_
 refine XR_a (op_pick_t rfl rfl) rfl rfl (XR_a (op_move rfl) rfl rfl (XR_a (op_move rfl) rfl rfl ?_))
 refine XR_a (op_index (i := 0) rfl rfl rfl (by omega)) rfl rfl ?_
 first | refine XR_a (op_field0 rfl rfl) rfl rfl ?_ | refine XR_a (op_fieldn rfl rfl) rfl rfl ?_
 obtain ⟨_, _, he6, hc6⟩ := (st6.rdS 1 rfl).2.at_ (by simp)
 cases he6
 refine XR_a (op_ld (hc6 0 (.int .u8 7) rfl) rfl rfl rfl) rfl rfl ?_
 refine XR_a (op_eql rfl rfl) rfl rfl ?_
 refine XR_as (.bool true) (congrArg Value.bool (decide_eq_true rfl)) ?_
 refine XR_a (op_pick_t rfl rfl) rfl rfl (XR_a (op_assign rfl) rfl rfl (XR_nil ?_))
 refine X_ret (.cons (.tmp rfl) .nil) ?_
 exact ⟨rfl, Ext.trans hx4 st6.low⟩
end Go.Bn
end

section
set_option linter.unusedVariables false
set_option linter.unusedSimpArgs false
set_option maxHeartbeats 4000000
set_option maxRecDepth 20000
namespace Go.Bn
open Go Proofs
theorem btake_nil {most : Int} (h0 : Heap) :
  Ret Tryz.prog 11 [.pointer none, .int .i64 most] h0 fun v h' => v = retVal [.slice none 0 0, nV 1] ∧ h0 = h' := by
 refine ret_of_X Tryz.func11 rfl rfl fun w0 hw0 => ?_
 simp only [argE, Nat.zero_add, Nat.reduceAdd]
 refine X_seq (X_reg (XR_a (op_assign rfl) rfl rfl (XR_a (op_assign rfl) rfl rfl (XR_nil (X_seq ?_)))))
 refine X_seq (X_reg (XR_a (op_move rfl) rfl rfl ?_))
 refine XR_a (op_ptr_nil rfl rfl rfl) rfl rfl ?_
 refine XR_nil (X_then rfl (X_seq (X_reg (XR_a (op_assign rfl) rfl rfl (XR_a (op_assign rfl) rfl rfl ?_)))))
 refine XR_nil ?_
 refine X_ret (.cons (.tmp rfl) (.cons (.tmp rfl) .nil)) ?_
 exact ⟨rfl, rfl⟩
end Go.Bn
end

section
set_option linter.unusedVariables false
set_option linter.unusedSimpArgs false
set_option maxHeartbeats 4000000
set_option maxRecDepth 20000
namespace Go.Bn
open Go Proofs
theorem same11_ref {n m c d : Nat} {A B : Option Addr} {xs ys : List Tok} {h0 : Heap} (hr : Rd h0 A (xs.flatMap tokV)) (hl : xs.length = n) (hs : Rd h0 B (ys.flatMap tokV)) (hm : ys.length = m) (hn : n ≤ 9223372036854775807) (hmn : m ≤ 9223372036854775807) :
  Ret Tryz.prog 14 [.slice A n c, .slice B m d] h0 fun v h' => v = .bool (decide (xs = ys)) ∧ h0 = h' := by
 refine ret_of_X Tryz.func14 rfl rfl fun w0 hw0 => ?_
 simp only [argE, Nat.zero_add, Nat.reduceAdd]
 refine X_seq (X_reg (XR_a (op_assign rfl) rfl rfl (XR_nil (X_seq (X_seq ?_)))))
 refine X_reg (XR_a (op_move rfl) rfl rfl ?_)
 refine XR_a (op_len rfl rfl rfl) rfl rfl ?_
 refine XR_a (op_move rfl) rfl rfl ?_
 refine XR_a (op_len rfl rfl rfl) rfl rfl ?_
 refine XR_a (op_neq rfl rfl) rfl rfl ?_
 refine XR_nil ?_
 refine X_if rfl (fun h => ?_) (fun h => ?_)
 ·refine X_seq (X_reg (XR_a (op_assign rfl) rfl rfl (XR_nil ?_)))
  refine X_ret (.cons (.tmp rfl) .nil) ?_
  exact ⟨congrArg Value.bool (decide_eq_false (fun hh => by subst hh; omega)).symm, rfl⟩
 ·refine X_skip (X_seq (X_seq (X_reg (XR_a (op_assign rfl) rfl rfl (XR_nil ?_)))))
  refine X_block ?_
  refine X_loop (fun i => n - i) (fun i => [(0, .slice A n c), (1, .slice B m d), (5, nV i)])
   (fun (i : Nat) hp => h0 = hp ∧ i ≤ n ∧ xs.take i = ys.take i)
   0 (.cons rfl (.cons rfl (.cons rfl (.nil _)))) ⟨rfl, Nat.zero_le _, by simp⟩ ?_
  rintro i hp ⟨rfl, hi, heq⟩
  have hmn2 : n = m := by omega
  refine X_seq (X_seq (X_reg (XR_a (op_move rfl) rfl rfl (XR_a (op_move rfl) rfl rfl ?_))))
  refine XR_a (op_len rfl rfl rfl) rfl rfl ?_
  refine XR_a (op_lss rfl rfl) rfl rfl ?_
  refine XR_nil ?_
  refine X_if rfl (fun h => ?_) (fun h => ?_)
  ·have hil : i < xs.length := by omega
   have hil2 : i < ys.length := by omega
   obtain ⟨g1, o1, rfl, hc1⟩ := Rd.flat tokV 3 hr (fun _ => rfl) (by omega) (by omega)
   obtain ⟨g2, o2, rfl, hc2⟩ := Rd.flat tokV 3 hs (fun _ => rfl) (by omega) (by omega)
   have hcx := hc1 i hil
   have hcy := hc2 i hil2
   obtain ⟨x, hx⟩ : ∃ x, xs[i] = x := ⟨_, rfl⟩
   obtain ⟨y, hy⟩ : ∃ y, ys[i] = y := ⟨_, rfl⟩
   rw [hx] at hcx
   rw [hy] at hcy
   refine X_skip (X_seq (X_block (X_seq ?_)))
   refine X_draw byKind (by kernel_rfl) (by kernel_rfl) ?_
   refine XR_a (op_move rfl) rfl rfl (XR_a (op_move rfl) rfl rfl ?_)
   refine XR_a (op_index (i := i) rfl rfl rfl (by omega)) rfl rfl ?_
   refine XR_a (op_ldA (vs := tokV x) hcx rfl rfl rfl rfl) rfl rfl ?_
   refine XR_a (op_move rfl) rfl rfl (XR_a (op_move rfl) rfl rfl ?_)
   refine XR_a (op_index (i := i) rfl rfl rfl (by omega)) rfl rfl ?_
   refine XR_a (op_ldA (vs := tokV y) hcy rfl rfl rfl rfl) rfl rfl ?_
   refine XR_a (op_neqH rfl rfl (neq_flat (ks := [.i .u8, .i .i64, .i .i64]) (by kernel_rfl) (by kernel_rfl) rfl rfl) (by kernel_rfl)) rfl rfl ?_
   refine XR_as (.bool (decide (x ≠ y))) (congrArg Value.bool (by rw [eqL_tok]; by_cases hxy : x = y <;> simp [hxy])) ?_
   refine XR_nil ?_
   refine X_if rfl (fun h => ?_) (fun h => ?_)
   ·refine X_seq (X_reg (XR_a (op_assign rfl) rfl rfl (XR_nil ?_)))
    refine X_ret (.cons (.tmp rfl) .nil) ?_
    exact ⟨congrArg Value.bool (decide_eq_false (fun hh => by subst hh; exact h (hx.symm.trans hy))).symm, rfl⟩
   ·refine X_skip (X_blk (X_reg (XR_a (op_move rfl) rfl rfl ?_)))
    first | refine XR_a (op_addN (n := 1) rfl rfl (by simp only [inK]; omega)) rfl rfl ?_ | refine XR_a (op_addI rfl rfl (by simp only [inK]; omega)) rfl rfl ?_ | refine XR_a (op_add rfl rfl) rfl rfl ?_
    refine XR_a (op_assign rfl) rfl rfl (XR_nil ?_)
    have hxy : x = y := Decidable.not_not.1 h
    exact X_again (i + 1) (.cons rfl (.cons rfl (.cons rfl (.nil _)))) ⟨rfl, by omega, by rw [List.take_succ_eq_append_getElem hil, List.take_succ_eq_append_getElem hil2, heq, hx, hy, hxy]⟩ (by omega)
  ·refine X_exit rfl (X_seq (X_reg (XR_a (op_assign rfl) rfl rfl (XR_nil ?_))))
   refine X_ret (.cons (.tmp rfl) .nil) ?_
   rw [List.take_of_length_le (by omega), List.take_of_length_le (by omega)] at heq
   exact ⟨congrArg Value.bool (decide_eq_true heq).symm, rfl⟩
theorem blockTakes_ret {m c : Nat} {most : Int} {A : Option Addr} {l : List UInt8} {h0 : Heap} (hr : Rd h0 A (l.map byteV)) (hl : l.length = m) (hmo : inK .i64 most) :
  Ret Tryz.prog 3 [.slice A m c, .int .i64 most] h0 fun v h' => v = .bool true ∧ Ext h0 h' := by
 refine ret_of_X Tryz.func3 rfl rfl fun w0 hw0 => ?_
 simp only [argE, Nat.zero_add, Nat.reduceAdd]
 refine X_seq (X_reg (XR_a (op_assign rfl) rfl rfl (XR_nil (X_seq (X_seq ?_)))))
 refine X_reg (XR_a (op_move rfl) rfl rfl ?_)
 refine XR_a (op_len rfl rfl rfl) rfl rfl ?_
 refine XR_a (op_gtr rfl rfl) rfl rfl ?_
 refine XR_nil ?_
 refine X_if rfl (fun h => ?_) (fun h => ?_)
 ·refine X_seq (X_reg ?_)
  refine XR_wa (opl_call (lives13 _) rfl (by kernel_rfl)) rfl rfl rfl ?_
  rintro _ hp ⟨rfl, hx⟩
  refine XR_a (op_assign rfl) rfl rfl (XR_nil ?_)
  refine X_ret (.cons (.tmp rfl) .nil) ?_
  exact ⟨rfl, hx⟩
 ·refine X_skip (X_seq (X_reg (XR_a (op_move rfl) rfl rfl ?_)))
  refine XR_wa (opl_call (rnew_spec) rfl (by kernel_rfl)) rfl rfl rfl ?_
  rintro _ hp2 ⟨q, rfl, st⟩
  refine XR_a (op_assign rfl) rfl rfl (XR_nil (X_seq (X_reg (XR_a (op_move rfl) rfl rfl (XR_a (op_move rfl) rfl rfl ?_)))))
  refine XR_wa (opl_call (btake_spec st.here (fun h' hl' => hr.ext (st.low.trans hl')) hl (by omega) hmo) rfl (by kernel_rfl)) rfl rfl rfl ?_
  rintro _ hp3 ⟨w, a', rfl, ha', hat, st3⟩
  replace st := st.trans st3
  clear st3
  have hbl := bitsB_length l
  refine XR_a (op_move rfl) rfl rfl (XR_a (op_extract rfl rfl) rfl rfl (XR_a (op_extract rfl rfl) rfl rfl (XR_a (op_assign rfl) rfl rfl (XR_a (op_assign rfl) rfl rfl (XR_nil ?_)))))
  refine X_seq (X_reg (XR_a (op_move rfl) rfl rfl ?_))
  refine XR_wa (opl_call (unpack_ref (hr.ext st.low) hl (by omega)) rfl (by kernel_rfl)) rfl rfl rfl ?_
  rintro v4 hp4 st4
  replace st := st.join st4
  simp only [List.cons_append, List.nil_append] at st
  clear st4
  obtain ⟨A4, n4, c4, rfl, hl4, hc4, _, hr4⟩ := st.row 0 rfl
  rw [List.length_map, b01_length, Nat.mul_one] at hl4
  refine XR_a (op_move rfl) rfl rfl ?_
  refine XR_wa (opl_call (take13_ref hr4 hl4 (by omega) hc4 hmo) rfl (by kernel_rfl)) rfl rfl rfl ?_
  rintro _ hp5 ⟨w5, rfl, ho5, st5⟩
  replace st := st.join st5
  simp only [List.cons_append, List.nil_append] at st
  clear st5
  obtain ⟨T, hT⟩ : ∃ T, blockT (bitsB l) most = T := ⟨_, rfl⟩
  rw [hT] at st hat ⊢
  refine XR_wa (opl_new rfl) rfl rfl rfl ?_
  rintro _ hp ⟨p8, rfl, hnew⟩
  replace st := st.new hnew
  refine XR_wn (opl_store_whole (us := tC w5 T.2.1 T.2.2.1 T.2.2.2) st 0 rfl rfl rfl rfl rfl (tC_one ho5) rfl) rfl rfl fun _ hp st => ?_
  simp only [List.set_cons_zero, List.set_cons_succ] at st
  obtain ⟨A5, n5, c5, rfl, hl5, hn5, hc5, hr5⟩ := st.row 1 rfl
  obtain ⟨A6, n6, c6, rfl, hl6, hn6, hc6, hr6⟩ := st.row 4 rfl
  rw [flat_length _ 3 (fun _ => rfl)] at hl5 hl6
  refine XR_nil (X_seq (X_reg (XR_a (op_move rfl) rfl rfl ?_)))
  refine XR_wa (opl_call (btake_nil _) rfl (by kernel_rfl)) rfl rfl rfl ?_
  rintro _ _ ⟨rfl, rfl⟩
  refine XR_a (op_move rfl) rfl rfl (XR_a (op_extract rfl rfl) rfl rfl (XR_a (op_extract rfl rfl) rfl rfl (XR_a (op_assign rfl) rfl rfl (XR_a (op_assign rfl) rfl rfl (XR_nil ?_)))))
  refine X_seq ?_
  refine X_draw_in (butAt [(8, .grow), (15, .grow), (26, .grow)]) [0, 1, 2, 3, 4, 5, 6, 7, 8, 9, 10, 11, 12, 13, 14, 16, 17, 15, 18, 19, 20, 21, 22, 23, 24, 25, 26, 27, 28] (by kernel_rfl) (by kernel_rfl) rfl ?_
  refine XR_a (op_move rfl) rfl rfl ?_
  first | refine XR_a (op_field0 rfl rfl) rfl rfl ?_ | refine XR_a (op_fieldn rfl rfl) rfl rfl ?_
  refine XR_a (op_ld (st.cell 0 (i := 3) rfl rfl) rfl rfl rfl) rfl rfl ?_
  refine XR_a (op_eql rfl rfl) rfl rfl ?_
  refine XR_as (.bool true) (congrArg Value.bool (decide_eq_true rfl)) ?_
  refine XR_a (op_move rfl) rfl rfl (XR_a (op_move rfl) rfl rfl ?_)
  first | refine XR_a (op_field0 rfl rfl) rfl rfl ?_ | refine XR_a (op_fieldn rfl rfl) rfl rfl ?_
  refine XR_a (op_ld (st.cell 0 (i := 0) rfl rfl) rfl rfl rfl) rfl rfl ?_
  refine XR_ga (opl_call (same11_ref hr6 (by omega) hr5 (by omega) (by simp only [maxLen] at hc6; omega) (by simp only [maxLen] at hc5; omega)) rfl (by kernel_rfl)) rfl rfl rfl (fun _ _ h => h.2 ▸ Low.refl _ _) ?_
  rintro _ _ ⟨rfl, rfl⟩
  rw [decide_eq_true rfl]
  refine XR_a (op_pick_t rfl rfl) rfl rfl (XR_a (op_move rfl) rfl rfl (XR_a (op_move rfl) rfl rfl ?_))
  refine XR_a (op_neq rfl rfl) rfl rfl ?_
  refine XR_a (op_move rfl) rfl rfl ?_
  refine XR_if 45 rfl (fun h => ?_) (fun h => ?_)
  ·refine XR_no rfl rfl (XR_no rfl rfl (XR_no rfl rfl (XR_no rfl rfl (XR_no rfl rfl (XR_a (op_pick_t rfl rfl) rfl rfl ?_)))))
   refine XR_a (op_pick_t rfl rfl) rfl rfl (XR_a (op_move rfl) rfl rfl (XR_a (op_move rfl) rfl rfl ?_))
   refine XR_a (op_eql rfl rfl) rfl rfl ?_
   refine XR_as (.bool true) (congrArg Value.bool (decide_eq_true rfl)) ?_
   refine XR_a (op_pick_t rfl rfl) rfl rfl (XR_a (op_move rfl) rfl rfl ?_)
   refine XR_ga (opl_call (lives13 _) rfl (by kernel_rfl)) rfl rfl rfl (fun _ _ h => h.2) ?_
   rintro _ hp9 ⟨rfl, hx9⟩
   refine XR_a (op_pick_t rfl rfl) rfl rfl (XR_a (op_assign rfl) rfl rfl (XR_nil ?_))
   refine X_ret (.cons (.tmp rfl) .nil) ?_
   exact ⟨rfl, Ext.trans st.low hx9⟩
  ·refine XR_a (op_move rfl) rfl rfl ?_
   first | refine XR_a (op_field0 rfl rfl) rfl rfl ?_ | refine XR_a (op_fieldn rfl rfl) rfl rfl ?_
   refine XR_a (op_ld (st.cell 0 (i := 2) rfl rfl) rfl rfl rfl) rfl rfl ?_
   refine XR_ga (opl_call (rat_spec (st.cell 3 (i := 1) rfl rfl)) rfl (by kernel_rfl)) rfl rfl rfl (fun _ _ h => h.2 ▸ Low.refl _ _) ?_
   rintro _ _ ⟨rfl, rfl⟩
   refine XR_a (op_eql rfl rfl) rfl rfl ?_
   refine XR_as (.bool true) (congrArg Value.bool (decide_eq_true (by have := hat (by omega); omega))) ?_
   refine XR_a (op_pick_f rfl rfl) rfl rfl (XR_a (op_pick_t rfl rfl) rfl rfl (XR_a (op_move rfl) rfl rfl (XR_a (op_move rfl) rfl rfl ?_)))
   refine XR_a (op_eql rfl rfl) rfl rfl ?_
   refine XR_as (.bool true) (congrArg Value.bool (decide_eq_true rfl)) ?_
   refine XR_a (op_pick_t rfl rfl) rfl rfl (XR_a (op_move rfl) rfl rfl ?_)
   refine XR_ga (opl_call (lives13 _) rfl (by kernel_rfl)) rfl rfl rfl (fun _ _ h => h.2) ?_
   rintro _ hp9 ⟨rfl, hx9⟩
   refine XR_a (op_pick_t rfl rfl) rfl rfl (XR_a (op_assign rfl) rfl rfl (XR_nil ?_))
   refine X_ret (.cons (.tmp rfl) .nil) ?_
   exact ⟨rfl, Ext.trans st.low hx9⟩
end Go.Bn
end
