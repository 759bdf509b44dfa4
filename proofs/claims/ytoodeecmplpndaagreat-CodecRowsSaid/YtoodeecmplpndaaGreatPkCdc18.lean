/- Packed texts of a claim: what its theorem uses, joined. -/
import Derived.Test.YtoodeecmplpndaaGreatPkCdc17
section
set_option linter.unusedVariables false
set_option linter.unusedSimpArgs false
set_option maxHeartbeats 4000000
set_option maxRecDepth 20000
namespace Go.Bn
open Go Proofs
theorem class13_ref {n c d m c3 a fr : Nat} {A V A3 : Option Addr} {ls : List Nat} {rb : List Bool} {h0 : Heap} (hr : Rd h0 A (ls.map nV)) (hl : ls.length = n) (hs : Rd h0 V ((vals ls).map nV)) (hok : lensOK ls)
  (hrb : Rd h0 A3 ((b01 rb).map byteV)) (hlb : rb.length = m) (hm : m ≤ 1048576) (hmc : m ≤ c3) (ha : a ≤ m) (hfr : ls.length ≤ fr + 30) (hfr2 : fr ≤ 300) :
  Ret Tryz.prog 38 [.slice A n c, .slice V n d, .slice A3 m c3, nV a, nV fr] h0
   fun v h' => v = retVal [.agg (clsV (clsT ls fr rb a).1).toArray, nV (clsT ls fr rb a).2.1, nV (clsT ls fr rb a).2.2] ∧ Ext h0 h' := by
 have hsm := takeC_small hok (rb.drop a)
 have hle := takeC_le ls (rb.drop a)
 have hsy := takeC_sym hok (bs := rb.drop a)
 have hSC := takeC_S hok (rb.drop a)
 rw [List.length_drop, hlb] at hle
 obtain ⟨T, hT⟩ : ∃ T, takeC ls (rb.drop a) = T := ⟨_, rfl⟩
 rw [hT] at hsm hle hsy hSC
 obtain ⟨C, hCe⟩ : ∃ C, clsT ls fr rb a = C := ⟨_, rfl⟩
 rw [show clsT ls fr rb a = C from hCe]
 unfold clsT at hCe
 rw [hT, hlb] at hCe
 have hok2 := hok.2.1
 refine ret_of_X Tryz.func38 rfl rfl fun w0 hw0 => ?_
 simp only [argE, Nat.zero_add, Nat.reduceAdd]
 have st := St.start h0
 refine X_seq (X_reg ?_)
 refine XR_wa (opl_new rfl) rfl rfl rfl ?_
 rintro _ hp ⟨p6, rfl, hnew⟩
 replace st := st.new hnew
 refine XA rfl rfl rfl (XA rfl rfl rfl (XR_nil (X_seq (X_reg (XV rfl rfl rfl (XV rfl rfl rfl (XV rfl rfl rfl (XV rfl rfl rfl ?_))))))))
 refine XR_wa (opl_call (take08_ref (hr.ext st.low) hl (hs.ext st.low) hok (hrb.ext st.low) hlb hm hmc ha) rfl (by kernel_rfl)) rfl rfl rfl ?_
 rintro _ hp ⟨rfl, hx5⟩
 replace st := st.ext hx5
 rw [← hSC]
 refine XV rfl rfl rfl (XR_a (op_extract rfl rfl) rfl rfl (XR_a (op_extract rfl rfl) rfl rfl (XR_a (op_extract rfl rfl) rfl rfl (XA rfl rfl rfl (XA rfl rfl rfl (XA rfl rfl rfl (XR_nil (X_seq (X_seq ?_)))))))))
 refine X_reg (XV rfl rfl rfl ?_)
 refine XR_a (op_neq rfl rfl) rfl rfl ?_
 refine XV rfl rfl rfl ?_
 refine XR_if 28 rfl (fun h => ?_) (fun h => ?_)
 ·rw [if_pos (by omega)] at hCe
  subst hCe
  refine XR_no rfl rfl (XR_no rfl rfl (XR_no rfl rfl (XR_a (op_pick_t rfl rfl) rfl rfl (XR_nil (X_then rfl (X_seq (X_reg (XV rfl rfl rfl ?_))))))))
  refine XR_a (op_build (ps := [(0, nV T.1)]) (cs := (clsV ⟨T.1, 0, 0⟩).toArray) rfl rfl) rfl rfl ?_
  refine XV rfl rfl rfl (XV rfl rfl rfl ?_)
  first | refine XR_a (op_addN rfl rfl (by simp only [inK]; omega)) rfl rfl ?_ | refine XR_a (op_addI rfl rfl (by simp only [inK]; omega)) rfl rfl ?_ | refine XR_a (op_add rfl rfl) rfl rfl ?_
  refine XV rfl rfl rfl ?_
  refine XR_wn (opl_store_whole (us := clsV ⟨T.1, 0, 0⟩) st 0 rfl rfl rfl rfl rfl (clsV_one _) rfl) rfl rfl fun _ hp st => ?_
  simp only [List.set_cons_zero, List.set_cons_succ] at st
  refine XA rfl rfl rfl (XA rfl rfl rfl (XR_nil ?_))
  refine X_ret (.cons (RV_agg (vs := clsV _) rfl rfl rfl (st.cells 0 rfl)) (.cons (.tmp rfl) (.cons (.tmp rfl) .nil))) ?_
  exact ⟨rfl, st.low⟩
 ·refine XV rfl rfl rfl (XV rfl rfl rfl ?_)
  refine XR_a (op_lss rfl rfl) rfl rfl ?_
  refine XR_a (op_pick_f rfl rfl) rfl rfl (XR_nil ?_)
  refine X_if rfl (fun h => ?_) (fun h => ?_)
  ·rw [if_pos (by omega)] at hCe
   subst hCe
   refine X_seq (X_reg (XV rfl rfl rfl ?_))
   refine XR_a (op_build (ps := [(0, nV T.1)]) (cs := (clsV ⟨T.1, 0, 0⟩).toArray) rfl rfl) rfl rfl ?_
   refine XV rfl rfl rfl (XV rfl rfl rfl ?_)
   first | refine XR_a (op_addN rfl rfl (by simp only [inK]; omega)) rfl rfl ?_ | refine XR_a (op_addI rfl rfl (by simp only [inK]; omega)) rfl rfl ?_ | refine XR_a (op_add rfl rfl) rfl rfl ?_
   refine XV rfl rfl rfl ?_
   refine XR_wn (opl_store_whole (us := clsV ⟨T.1, 0, 0⟩) st 0 rfl rfl rfl rfl rfl (clsV_one _) rfl) rfl rfl fun _ hp st => ?_
   simp only [List.set_cons_zero, List.set_cons_succ] at st
   refine XA rfl rfl rfl (XA rfl rfl rfl (XR_nil ?_))
   refine X_ret (.cons (RV_agg (vs := clsV _) rfl rfl rfl (st.cells 0 rfl)) (.cons (.tmp rfl) (.cons (.tmp rfl) .nil))) ?_
   exact ⟨rfl, st.low⟩
  ·have hT0 : T.2.2 = 0 := by omega
   have hTl : T.1 < ls.length := (hsy hT0).1
   have hbc : bitsC (T.1 - fr) ≤ 13 := by unfold bitsC; split <;> omega
   rw [if_neg (by omega)] at hCe
   have hwd : wd 32 ((bitsC (T.1 - fr) : Nat) : Int) = bitsC (T.1 - fr) := wd_nat (by omega)
   refine X_skip (X_seq (X_reg (XV rfl rfl rfl (XV rfl rfl rfl ?_))))
   first | refine XR_a (op_addN rfl rfl (by simp only [inK]; omega)) rfl rfl ?_ | refine XR_a (op_addI rfl rfl (by simp only [inK]; omega)) rfl rfl ?_ | refine XR_a (op_add rfl rfl) rfl rfl ?_
   refine XA rfl rfl rfl (XR_nil (X_seq (X_reg (XV rfl rfl rfl (XV rfl rfl rfl ?_)))))
   first | refine XR_a (op_subN rfl rfl (by omega) (by simp only [inK]; omega)) rfl rfl ?_ | refine XR_a (op_subI rfl rfl (by simp only [inK]; omega)) rfl rfl ?_ | refine XR_a (op_sub rfl rfl) rfl rfl ?_
   refine XR_wa (opl_call (bits_ref (v := ((T.1 - fr : Nat) : Int)) (by omega) _) rfl (by kernel_rfl)) rfl rfl rfl ?_
   rintro _ _ ⟨rfl, rfl⟩
   rw [Int.toNat_natCast]
   refine XA rfl rfl rfl (XR_nil (X_seq (X_seq (X_reg (XV rfl rfl rfl ?_)))))
   refine XR_a (op_len rfl rfl rfl) rfl rfl ?_
   refine XV rfl rfl rfl ?_
   first | refine XR_a (op_subN rfl rfl (by omega) (by simp only [inK]; omega)) rfl rfl ?_ | refine XR_a (op_subI rfl rfl (by simp only [inK]; omega)) rfl rfl ?_ | refine XR_a (op_sub rfl rfl) rfl rfl ?_
   refine XV rfl rfl rfl ?_
   refine XR_a (op_lss rfl rfl) rfl rfl ?_
   refine XR_nil ?_
   refine X_if rfl (fun h => ?_) (fun h => ?_)
   ·rw [if_pos (by omega)] at hCe
    subst hCe
    refine X_seq (X_reg ?_)
    refine XR_a (op_build (ps := []) (cs := (clsV Kls.nil).toArray) rfl rfl) rfl rfl ?_
    refine XV rfl rfl rfl ?_
    refine XR_wn (opl_store_whole (us := clsV Kls.nil) st 0 rfl rfl rfl rfl rfl (clsV_one _) rfl) rfl rfl fun _ hp st => ?_
    simp only [List.set_cons_zero, List.set_cons_succ] at st
    refine XA rfl rfl rfl (XA rfl rfl rfl (XR_nil ?_))
    refine X_ret (.cons (RV_agg (vs := clsV _) rfl rfl rfl (st.cells 0 rfl)) (.cons (.tmp rfl) (.cons (.tmp rfl) .nil))) ?_
    exact ⟨rfl, st.low⟩
   ·rw [if_neg (by omega)] at hCe
    subst hCe
    have hnl := numB_lt rb (a + T.2.1) (bitsC (T.1 - fr))
    refine X_skip (X_seq (X_reg (XV rfl rfl rfl (XV rfl rfl rfl (XV rfl rfl rfl (XV rfl rfl rfl (XV rfl rfl rfl ?_)))))))
    refine XR_wa (opl_call (number_ref (k := ((bitsC (T.1 - fr) : Nat) : Int)) (hrb.ext st.low) hlb (by omega) (by omega)) rfl (by kernel_rfl)) rfl rfl rfl ?_
    rintro _ _ ⟨rfl, rfl⟩
    rw [hwd]
    refine XR_a (op_build (ps := [(0, nV T.1), (1, nV (bitsC (T.1 - fr))), (2, .int .u32 ((numB rb (a + T.2.1) (bitsC (T.1 - fr)) : Nat) : Int))]) (cs := (clsV ⟨T.1, bitsC (T.1 - fr), (numB rb (a + T.2.1) (bitsC (T.1 - fr)) : Nat)⟩).toArray) rfl rfl) rfl rfl ?_
    refine XV rfl rfl rfl (XV rfl rfl rfl ?_)
    first | refine XR_a (op_addN rfl rfl (by simp only [inK]; omega)) rfl rfl ?_ | refine XR_a (op_addI rfl rfl (by simp only [inK]; omega)) rfl rfl ?_ | refine XR_a (op_add rfl rfl) rfl rfl ?_
    refine XR_wn (opl_store_whole (us := clsV ⟨T.1, bitsC (T.1 - fr), (numB rb (a + T.2.1) (bitsC (T.1 - fr)) : Nat)⟩) st 0 rfl rfl rfl rfl rfl (clsV_one _) rfl) rfl rfl fun _ hp st => ?_
    simp only [List.set_cons_zero, List.set_cons_succ] at st
    refine XA rfl rfl rfl (XA rfl rfl rfl (XR_nil ?_))
    refine X_ret (.cons (RV_agg (vs := clsV _) rfl rfl rfl (st.cells 0 rfl)) (.cons (.tmp rfl) (.cons (.tmp rfl) .nil))) ?_
    exact ⟨rfl, st.low⟩
@[reducible] def tC (v : Value) (sz a e : Nat) : List Value := [v, nV sz, nV a, nV e]
theorem tC_one {v : Value} {sz a e : Nat} (h : Value.one v = true) : ∀ u ∈ tC v sz a e, Value.one u = true := by
 intro u hu
 simp only [tC, List.mem_cons, List.not_mem_nil, or_false] at hu
 rcases hu with rfl | rfl | rfl | rfl <;> first | rfl | exact h
theorem take13_ref {m c : Nat} {most : Int} {A : Option Addr} {rb : List Bool} {h0 : Heap} (hr : Rd h0 A ((b01 rb).map byteV)) (hl : rb.length = m) (hm : m ≤ 1048576) (hmc : m ≤ c) (hmo : inK .i64 most) :
  Ret Tryz.prog 12 [.slice A m c, nV 0, .int .i64 most] h0 fun v h' => ∃ w, v = .agg (tC w (blockT rb most).2.1 (blockT rb most).2.2.1 (blockT rb most).2.2.2).toArray ∧ Value.one w = true ∧
   St h0.size h0 h' [row 65 3 w ((blockT rb most).1.flatMap tokV)] := by
 obtain ⟨W, hW⟩ : ∃ W, blockT rb most = W := ⟨_, rfl⟩
 rw [hW]
 unfold blockT at hW
 obtain ⟨N, hN⟩ : ∃ N, codesT rb 0 = N := ⟨_, rfl⟩
 have hok := codesT_ok (bs := rb) (a := 0)
 have hle := codesT_le (bs := rb)
 rw [hN] at hok hW hle
 unfold codesT at hN
 obtain ⟨X, hX⟩ : ∃ X, takeR rb 0 (okR rb 0) = X := ⟨_, rfl⟩
 rw [hX] at hN
 obtain ⟨Y, hY⟩ : ∃ Y, takeR rb X.2.1 (okR rb X.2.1) = Y := ⟨_, rfl⟩
 rw [hY] at hN
 have hcl : ∀ z : List Nat, (castI z).length = z.length := fun z => by unfold castI; rw [List.length_map]
 have hmn : ∀ z : List Nat, z.map nV = (castI z).map iV := fun z => by unfold castI; rw [List.map_map]; rfl
 simp only [inK] at hmo
 refine ret_of_X Tryz.func12 rfl rfl fun w0 hw0 => ?_
 simp only [argE, Nat.zero_add, Nat.reduceAdd]
 have st := St.start h0
 refine X_seq (X_reg ?_)
 refine XR_wa (opl_new rfl) rfl rfl rfl ?_
 rintro _ hp ⟨p6, rfl, hnew⟩
 replace st := st.new hnew
 replace st : St h0.size h0 hp [pt p6 31 (tC (.slice none 0 0) 0 0 0)] := st
 refine XR_nil (X_seq (X_reg (XV rfl rfl rfl (XV rfl rfl rfl ?_))))
 refine XR_wa (opl_call (take09_ref (a := 0) (hr.ext st.low) hl hm hmc (by omega)) rfl (by kernel_rfl)) rfl rfl rfl ?_
 rintro _ hp ⟨w1, x1, rfl, hat, st1⟩
 rw [hX] at hat st1 ⊢
 replace st := (st.join st1)
 simp only [List.cons_append, List.nil_append] at st
 clear st1
 obtain ⟨A1, n1, c1, rfl, hl1, _⟩ := st.row 0 rfl
 rw [List.length_map, Nat.mul_one] at hl1
 refine XV rfl rfl rfl (XR_a (op_extract rfl rfl) rfl rfl (XR_a (op_extract rfl rfl) rfl rfl (XR_a (op_extract rfl rfl) rfl rfl (XA rfl rfl rfl (XA rfl rfl rfl (XA rfl rfl rfl (XR_nil (X_seq (X_seq ?_)))))))))
 refine X_reg (XV rfl rfl rfl ?_)
 refine XR_a (op_neq rfl rfl) rfl rfl ?_
 refine XR_nil ?_
 refine X_if rfl (fun h => ?_) (fun h => ?_)
 ·have hN1 : N.1 = X.2.2 := by rw [← hN, if_pos (by omega)]
  rw [if_pos (by omega), hN1] at hW
  subst hW
  refine X_seq (X_reg (XV rfl rfl rfl ?_))
  refine XR_a (op_build (ps := [(3, nV X.2.2)]) (cs := (tC (.slice none 0 0) 0 0 X.2.2).toArray) rfl rfl) rfl rfl ?_
  refine XR_wn (opl_store_whole (us := tC (.slice none 0 0) 0 0 X.2.2) st 1 rfl rfl rfl rfl rfl (tC_one rfl) rfl) rfl rfl fun _ hp st => ?_
  simp only [List.set_cons_zero, List.set_cons_succ] at st
  refine XR_nil ?_
  refine X_ret (.cons (RV_agg (vs := tC _ _ _ _) rfl rfl rfl (st.cells 1 rfl)) .nil) ?_
  exact ⟨_, rfl, rfl, (st.nilrow 65 3).keep 1⟩
 ·rw [if_neg (by omega)] at hN
  obtain rfl := hat (by omega)
  have hx1 := takeR_at (bs := rb) (a := 0) (ok := okR rb 0) (by rw [hX]; omega) (by omega)
  rw [hX] at hx1
  refine X_skip (X_seq (X_reg (XV rfl rfl rfl (XV rfl rfl rfl ?_))))
  refine XR_wa (opl_call (take09_ref (a := X.2.1) (hr.ext st.low) hl hm hmc (by omega)) rfl (by kernel_rfl)) rfl rfl rfl ?_
  rintro _ hp ⟨w2, x2, rfl, hat2, st1⟩
  rw [hY] at hat2 st1 ⊢
  replace st := (st.join st1)
  simp only [List.cons_append, List.nil_append] at st
  clear st1
  obtain ⟨A2, n2, c2, rfl, hl2, _⟩ := st.row 0 rfl
  rw [List.length_map, Nat.mul_one] at hl2
  refine XV rfl rfl rfl (XR_a (op_extract rfl rfl) rfl rfl (XR_a (op_extract rfl rfl) rfl rfl (XR_a (op_extract rfl rfl) rfl rfl (XA rfl rfl rfl (XA rfl rfl rfl (XA rfl rfl rfl (XR_nil (X_seq (X_seq ?_)))))))))
  refine X_reg (XV rfl rfl rfl ?_)
  refine XR_a (op_neq rfl rfl) rfl rfl ?_
  refine XR_nil ?_
  refine X_if rfl (fun h => ?_) (fun h => ?_)
  ·have hN1 : N.1 = Y.2.2 := by rw [← hN, if_pos (by omega)]
   rw [if_pos (by omega), hN1] at hW
   subst hW
   refine X_seq (X_reg (XV rfl rfl rfl ?_))
   refine XR_a (op_build (ps := [(3, nV Y.2.2)]) (cs := (tC (.slice none 0 0) 0 0 Y.2.2).toArray) rfl rfl) rfl rfl ?_
   refine XR_wn (opl_store_whole (us := tC (.slice none 0 0) 0 0 Y.2.2) st 2 rfl rfl rfl rfl rfl (tC_one rfl) rfl) rfl rfl fun _ hp st => ?_
   simp only [List.set_cons_zero, List.set_cons_succ] at st
   refine XR_nil ?_
   refine X_ret (.cons (RV_agg (vs := tC _ _ _ _) rfl rfl rfl (st.cells 2 rfl)) .nil) ?_
   exact ⟨_, rfl, rfl, (st.nilrow 65 3).keep 1⟩
  ·rw [if_neg (by omega)] at hN
   obtain rfl := hat2 (by omega)
   have hx2 := takeR_at (bs := rb) (a := X.2.1) (ok := okR rb X.2.1) (by rw [hY]; omega) (by omega)
   rw [hY] at hx2
   refine X_skip (X_seq (X_seq (X_reg (XV rfl rfl rfl ?_))))
   refine XR_a (op_len rfl rfl rfl) rfl rfl ?_
   refine XR_a (op_neq rfl rfl) rfl rfl ?_
   refine XV rfl rfl rfl ?_
   refine XR_if 47 rfl (fun h => ?_) (fun h => ?_)
   ·have hN1 : N.1 = 3 := by rw [← hN, if_pos (by omega)]
    rw [if_pos (by omega), hN1] at hW
    subst hW
    refine XR_no rfl rfl (XR_no rfl rfl (XR_no rfl rfl (XR_a (op_pick_t rfl rfl) rfl rfl (XR_nil (X_then rfl (X_seq (X_reg ?_)))))))
    refine XR_a (op_build (ps := [(3, nV 3)]) (cs := (tC (.slice none 0 0) 0 0 3).toArray) rfl rfl) rfl rfl ?_
    refine XR_wn (opl_store_whole (us := tC (.slice none 0 0) 0 0 3) st 2 rfl rfl rfl rfl rfl (tC_one rfl) rfl) rfl rfl fun _ hp st => ?_
    simp only [List.set_cons_zero, List.set_cons_succ] at st
    refine XR_nil ?_
    refine X_ret (.cons (RV_agg (vs := tC _ _ _ _) rfl rfl rfl (st.cells 2 rfl)) .nil) ?_
    exact ⟨_, rfl, rfl, (st.nilrow 65 3).keep 1⟩
   ·refine XV rfl rfl rfl ?_
    refine XR_a (op_len rfl rfl rfl) rfl rfl ?_
    refine XR_a (op_neq rfl rfl) rfl rfl ?_
    refine XR_a (op_pick_f rfl rfl) rfl rfl (XR_nil ?_)
    refine X_if rfl (fun h => ?_) (fun h => ?_)
    ·have hN1 : N.1 = 3 := by rw [← hN, if_pos (by omega)]
     rw [if_pos (by omega), hN1] at hW
     subst hW
     refine X_seq (X_reg ?_)
     refine XR_a (op_build (ps := [(3, nV 3)]) (cs := (tC (.slice none 0 0) 0 0 3).toArray) rfl rfl) rfl rfl ?_
     refine XR_wn (opl_store_whole (us := tC (.slice none 0 0) 0 0 3) st 2 rfl rfl rfl rfl rfl (tC_one rfl) rfl) rfl rfl fun _ hp st => ?_
     simp only [List.set_cons_zero, List.set_cons_succ] at st
     refine XR_nil ?_
     refine X_ret (.cons (RV_agg (vs := tC _ _ _ _) rfl rfl rfl (st.cells 2 rfl)) .nil) ?_
     exact ⟨_, rfl, rfl, (st.nilrow 65 3).keep 1⟩
    ·rw [if_neg (by omega)] at hN
     refine X_skip (X_seq (X_seq (X_reg (XV rfl rfl rfl ?_))))
     refine XR_wa (opl_call (right08_ref (li := castI X.1) (by rw [← hmn]; exact (st.rdS 1 rfl).2) (by rw [hcl]; exact hl1) (by omega)) rfl (by kernel_rfl)) rfl rfl rfl ?_
     rintro _ _ ⟨rfl, rfl⟩
     first | refine XR_a (op_notd rfl) rfl rfl ?_ | refine XR_a (op_not rfl) rfl rfl ?_
     refine XV rfl rfl rfl ?_
     refine XR_if 56 rfl (fun h => ?_) (fun h => ?_)
     ·have hN1 : N.1 = 13 := by rw [← hN, if_pos (.inl (by simpa using h))]
      rw [if_pos (by omega), hN1] at hW
      subst hW
      refine XR_no rfl rfl (XR_no rfl rfl (XR_no rfl rfl (XR_a (op_pick_t rfl rfl) rfl rfl (XR_nil (X_then rfl (X_seq (X_reg ?_)))))))
      refine XR_a (op_build (ps := [(3, nV 13)]) (cs := (tC (.slice none 0 0) 0 0 13).toArray) rfl rfl) rfl rfl ?_
      refine XR_wn (opl_store_whole (us := tC (.slice none 0 0) 0 0 13) st 2 rfl rfl rfl rfl rfl (tC_one rfl) rfl) rfl rfl fun _ hp st => ?_
      simp only [List.set_cons_zero, List.set_cons_succ] at st
      refine XR_nil ?_
      refine X_ret (.cons (RV_agg (vs := tC _ _ _ _) rfl rfl rfl (st.cells 2 rfl)) .nil) ?_
      exact ⟨_, rfl, rfl, (st.nilrow 65 3).keep 1⟩
     ·refine XV rfl rfl rfl ?_
      refine XR_wa (opl_call (right08_ref (li := castI Y.1) (by rw [← hmn]; exact (st.rdS 0 rfl).2) (by rw [hcl]; exact hl2) (by omega)) rfl (by kernel_rfl)) rfl rfl rfl ?_
      rintro _ _ ⟨rfl, rfl⟩
      first | refine XR_a (op_notd rfl) rfl rfl ?_ | refine XR_a (op_not rfl) rfl rfl ?_
      refine XR_a (op_pick_f rfl rfl) rfl rfl (XR_nil ?_)
      refine X_if rfl (fun h => ?_) (fun h => ?_)
      ·have hN1 : N.1 = 13 := by rw [← hN, if_pos (.inr (by simpa using h))]
       rw [if_pos (by omega), hN1] at hW
       subst hW
       refine X_seq (X_reg ?_)
       refine XR_a (op_build (ps := [(3, nV 13)]) (cs := (tC (.slice none 0 0) 0 0 13).toArray) rfl rfl) rfl rfl ?_
       refine XR_wn (opl_store_whole (us := tC (.slice none 0 0) 0 0 13) st 2 rfl rfl rfl rfl rfl (tC_one rfl) rfl) rfl rfl fun _ hp st => ?_
       simp only [List.set_cons_zero, List.set_cons_succ] at st
       refine XR_nil ?_
       refine X_ret (.cons (RV_agg (vs := tC _ _ _ _) rfl rfl rfl (st.cells 2 rfl)) .nil) ?_
       exact ⟨_, rfl, rfl, (st.nilrow 65 3).keep 1⟩
      ·have hR1 : rightC (castI X.1) := by simp_all
       have hR2 : rightC (castI Y.1) := by simp_all
       rw [if_neg (by rintro (h | h) <;> exact h (by assumption))] at hN
       subst hN
       obtain ⟨oka, okb, na, nb⟩ := hok rfl
       have hle := hle rfl
       simp only at oka okb na nb hle hW
       rw [if_neg (by omega)] at hW
       obtain rfl : n1 = 273 := by omega
       obtain rfl : n2 = 30 := by omega
       refine X_skip (X_seq (X_reg (XV rfl rfl rfl ?_)))
       refine XR_wa (opl_call (values08_ref (ls := X.1) (st.rdS 1 rfl).2 hl1 oka) rfl (by kernel_rfl)) rfl rfl rfl ?_
       rintro v1 hp st1
       replace st := st.join st1
       simp only [List.cons_append, List.nil_append] at st
       clear st1
       obtain ⟨V1, m1, d1, rfl, hv1, _⟩ := st.row 0 rfl
       rw [List.length_map, vals_length, Nat.mul_one] at hv1
       obtain rfl : m1 = 273 := by omega
       refine XV rfl rfl rfl ?_
       refine XR_wa (opl_call (values08_ref (ls := Y.1) (st.rdS 1 rfl).2 hl2 okb) rfl (by kernel_rfl)) rfl rfl rfl ?_
       rintro v2 hp st1
       replace st := st.join st1
       simp only [List.cons_append, List.nil_append] at st
       clear st1
       obtain ⟨V2, m2, d2, rfl, hv2, _⟩ := st.row 0 rfl
       rw [List.length_map, vals_length, Nat.mul_one] at hv2
       obtain rfl : m2 = 30 := by omega
       refine XA rfl rfl rfl (XA rfl rfl rfl (XR_nil (X_seq (X_reg (XV rfl rfl rfl ?_)))))
       refine XR_a (op_build (ps := [(2, nV Y.2.1)]) (cs := (tC (.slice none 0 0) 0 Y.2.1 0).toArray) rfl rfl) rfl rfl ?_
       refine XR_wa (opl_new rfl) rfl rfl rfl ?_
       rintro _ hp ⟨p14, rfl, hnew⟩
       replace st := st.new hnew
       replace st : St h0.size h0 hp [pt p14 31 (tC (.slice none 0 0) 0 0 0), row 3 1 (.slice V2 30 d2) ((vals Y.1).map nV), row 3 1 (.slice V1 273 d1) ((vals X.1).map nV), row 3 1 (.slice A2 30 c2) (Y.1.map nV), row 3 1 (.slice A1 273 c1) (X.1.map nV), pt p6 31 (tC (.slice none 0 0) 0 0 0)] := st
       refine XR_wn (opl_store_whole (us := tC (.slice none 0 0) 0 Y.2.1 0) st 0 rfl rfl rfl rfl rfl (tC_one rfl) rfl) rfl rfl fun _ hp st => ?_
       simp only [List.set_cons_zero, List.set_cons_succ] at st
       refine XR_nil (X_seq (X_block ?_))
       replace st := (st.nilrow 65 3)
       replace st := st.re 7 [1, 0, 5, 3, 4, 2, 6] (by decide)
       simp only [List.map_cons, List.map_nil, getR] at st
       refine X_loop (fun s => m + 1 - s.2.1) (fun s => [(0, .slice A m c), (2, .int .i64 most), (6, .pointer (some ⟨p6, 0, none⟩)), (7, .slice A1 273 c1), (10, .slice A2 30 c2), (12, .slice V1 273 d1), (13, .slice V2 30 d2), (14, .pointer (some ⟨p14, 0, none⟩))])
        (fun (s : Nat × Nat × Nat × List Tok × Value) hp => s.2.1 ≤ m ∧ m - s.2.1 < s.1 ∧ s.2.2.2.1.length ≤ s.2.1 ∧ goB X.1 Y.1 rb most s.1 s.2.1 s.2.2.1 s.2.2.2.1 = W ∧ s.2.2.1 ≤ 258 * s.2.2.2.1.length ∧
         St h0.size h0 hp [pt p14 31 (tC s.2.2.2.2 s.2.2.1 s.2.1 0), row 65 3 s.2.2.2.2 (s.2.2.2.1.flatMap tokV), row 3 1 (.slice A1 273 c1) (X.1.map nV), row 3 1 (.slice V1 273 d1) ((vals X.1).map nV), row 3 1 (.slice A2 30 c2) (Y.1.map nV), row 3 1 (.slice V2 30 d2) ((vals Y.1).map nV), pt p6 31 (tC (.slice none 0 0) 0 0 0)])
        (rb.length + 1, Y.2.1, 0, [], _) (.cons rfl (.cons rfl (.cons rfl (.cons rfl (.cons rfl (.cons rfl (.cons rfl (.cons rfl (.nil _))))))))) ⟨by simp only; omega, by simp only; omega, by simp, hW, by simp, st⟩ ?_
       clear st
       rintro ⟨f, a, sz, acc, v⟩ hp ⟨ham, hfu, hal, hG, hsz, st⟩
       simp only at ham hfu hal hG hsz st ⊢
       obtain ⟨g, rfl⟩ : ∃ g, f = g + 1 := ⟨f - 1, by omega⟩
       have hnx := nextT_at (la := X.1) (lb := Y.1) (bs := rb) (a := a) oka okb (by omega)
       have hC1 := clsT_num (fr := 257) (bs := rb) (a := a) oka (by omega) (by omega)
       have hA1 := clsT_at (fr := 257) (bs := rb) (a := a) oka (by omega)
       rw [goB] at hG
       obtain ⟨N, hN⟩ : ∃ N, nextT X.1 Y.1 rb a = N := ⟨_, rfl⟩
       rw [hN] at hG hnx
       unfold nextT at hN
       obtain ⟨C, hC⟩ : ∃ C, clsT X.1 257 rb a = C := ⟨_, rfl⟩
       rw [hC] at hN hC1 hA1
       have hC2 := clsT_num (fr := 0) (bs := rb) (a := C.2.1) okb (by omega) (by omega)
       have hA2 := clsT_at (fr := 0) (bs := rb) (a := C.2.1) okb (by omega)
       obtain ⟨D, hD⟩ : ∃ D, clsT Y.1 0 rb C.2.1 = D := ⟨_, rfl⟩
       rw [hD] at hN hC2 hA2
       obtain ⟨A9, n9, c9, rfl, hl9, hn9, _⟩ := st.row 1 rfl
       rw [flat_length _ 3 (fun _ => rfl)] at hl9
       refine X_seq (X_seq (X_reg ?_))
       first | refine XR_a (op_field0 rfl rfl) rfl rfl ?_ | refine XR_a (op_fieldn rfl rfl) rfl rfl ?_
       refine XR_a (op_ld (st.cell 0 (i := 2) rfl rfl) rfl rfl rfl) rfl rfl ?_
       refine XV rfl rfl rfl ?_
       refine XR_a (op_len rfl rfl rfl) rfl rfl ?_
       refine XR_a (op_leq rfl rfl) rfl rfl ?_
       refine XR_as (.bool true) (congrArg Value.bool (decide_eq_true (by omega))) ?_
       refine XR_nil (X_then rfl (X_skip (X_block (X_seq (X_reg (XV rfl rfl rfl (XV rfl rfl rfl (XV rfl rfl rfl ?_))))))))
       first | refine XR_a (op_field0 rfl rfl) rfl rfl ?_ | refine XR_a (op_fieldn rfl rfl) rfl rfl ?_
       refine XR_a (op_ld (st.cell 0 (i := 2) rfl rfl) rfl rfl rfl) rfl rfl ?_
       refine XR_wa (opl_call (class13_ref (fr := 257) (st.rdS 2 rfl).2 na (st.rdS 3 rfl).2 oka (hr.ext st.low) hl hm hmc ham (by omega) (by omega)) rfl (by kernel_rfl)) rfl rfl rfl ?_
       rintro _ hp ⟨rfl, hx7⟩
       replace st := st.ext hx7
       rw [hC]
       refine XV rfl rfl rfl (XR_a (op_extract rfl rfl) rfl rfl (XR_a (op_extract rfl rfl) rfl rfl (XR_a (op_extract rfl rfl) rfl rfl ?_)))
       refine XR_wa (opl_new rfl) rfl rfl rfl ?_
       rintro _ hp ⟨p15, rfl, hnew⟩
       replace st := st.new hnew
       refine XR_wn (opl_store_whole (us := clsV C.1) st 0 rfl rfl rfl rfl rfl (clsV_one _) rfl) rfl rfl fun _ hp st => ?_
       simp only [List.set_cons_zero, List.set_cons_succ] at st
       refine XA rfl rfl rfl (XA rfl rfl rfl (XR_nil (X_seq (X_seq (X_reg (XV rfl rfl rfl ?_))))))
       refine XR_a (op_neq rfl rfl) rfl rfl ?_
       refine XR_nil ?_
       refine X_if rfl (fun h => ?_) (fun h => ?_)
       ·rw [if_pos (.inl (by omega))] at hN
        subst hN
        rw [if_pos rfl, if_pos (by simp only; omega)] at hG
        subst hG
        refine X_seq (X_reg (XV rfl rfl rfl ?_))
        refine XR_a (op_build (ps := [(3, nV C.2.2)]) (cs := (tC (.slice none 0 0) 0 0 C.2.2).toArray) rfl rfl) rfl rfl ?_
        refine XR_wn (opl_store_whole (us := tC (.slice none 0 0) 0 0 C.2.2) st 7 rfl rfl rfl rfl rfl (tC_one rfl) rfl) rfl rfl fun _ hp st => ?_
        simp only [List.set_cons_zero, List.set_cons_succ] at st
        refine XR_nil ?_
        refine X_ret (.cons (RV_agg (vs := tC _ _ _ _) rfl rfl rfl (st.cells 7 rfl)) .nil) ?_
        exact ⟨_, rfl, rfl, (st.nilrow 65 3).keep 1⟩
       ·have hC0 : C.2.2 = 0 := by omega
        refine X_skip (X_seq (X_reg (XV rfl rfl rfl ?_)))
        first | refine XR_a (op_field0 rfl rfl) rfl rfl ?_ | refine XR_a (op_fieldn rfl rfl) rfl rfl ?_
        refine XR_wn (opl_store_pt st 1 rfl rfl rfl rfl rfl (rfl)) rfl rfl fun _ hp st => ?_
        simp only [List.set_cons_zero, List.set_cons_succ] at st
        replace st : St h0.size h0 hp [pt p15 80 (clsV C.1), pt p14 31 (tC (.slice A9 n9 c9) sz C.2.1 0), row 65 3 (.slice A9 n9 c9) (acc.flatMap tokV), row 3 1 (.slice A1 273 c1) (X.1.map nV), row 3 1 (.slice V1 273 d1) ((vals X.1).map nV), row 3 1 (.slice A2 30 c2) (Y.1.map nV), row 3 1 (.slice V2 30 d2) ((vals Y.1).map nV), pt p6 31 (tC (.slice none 0 0) 0 0 0)] := st
        refine XR_nil (X_seq (X_seq (X_reg ?_)))
        first | refine XR_a (op_field0 rfl rfl) rfl rfl ?_ | refine XR_a (op_fieldn rfl rfl) rfl rfl ?_
        refine XR_a (op_ld (st.cell 0 (i := 0) rfl rfl) rfl rfl rfl) rfl rfl ?_
        refine XR_a (op_eql rfl rfl) rfl rfl ?_
        refine XR_nil ?_
        refine X_if rfl (fun h => ?_) (fun h => ?_)
        ·rw [if_pos (.inr (by omega))] at hN
         subst hN
         rw [if_pos rfl, if_neg (by simp only; omega)] at hG
         subst hG
         refine X_seq (X_reg ?_)
         refine XR_a (op_ldA (vs := tC (.slice A9 n9 c9) sz C.2.1 0) (st.cells 1 rfl) rfl rfl rfl rfl) rfl rfl ?_
         refine XR_wn (opl_store_whole (us := tC (.slice A9 n9 c9) sz C.2.1 0) st 7 rfl rfl rfl rfl rfl (tC_one rfl) rfl) rfl rfl fun _ hp st => ?_
         simp only [List.set_cons_zero, List.set_cons_succ] at st
         refine XR_nil ?_
         refine X_ret (.cons (RV_agg (vs := tC _ _ _ _) rfl rfl rfl (st.cells 7 rfl)) .nil) ?_
         exact ⟨_, rfl, rfl, (st.re 8 [2, 0, 1, 3, 4, 5, 6, 7] (by decide)).keep 1⟩
        ·rw [if_neg (by omega)] at hN
         refine X_skip (X_seq (X_reg ?_))
         refine XR_wa (opl_new rfl) rfl rfl rfl ?_
         rintro _ hp ⟨p18, rfl, hnew⟩
         replace st := st.new hnew
         replace st : St h0.size h0 hp [pt p18 80 (clsV Kls.nil), pt p15 80 (clsV C.1), pt p14 31 (tC (.slice A9 n9 c9) sz C.2.1 0), row 65 3 (.slice A9 n9 c9) (acc.flatMap tokV), row 3 1 (.slice A1 273 c1) (X.1.map nV), row 3 1 (.slice V1 273 d1) ((vals X.1).map nV), row 3 1 (.slice A2 30 c2) (Y.1.map nV), row 3 1 (.slice V2 30 d2) ((vals Y.1).map nV), pt p6 31 (tC (.slice none 0 0) 0 0 0)] := st
         refine XR_nil (X_seq (X_seq (X_reg ?_)))
         first | refine XR_a (op_field0 rfl rfl) rfl rfl ?_ | refine XR_a (op_fieldn rfl rfl) rfl rfl ?_
         refine XR_a (op_ld (st.cell 1 (i := 0) rfl rfl) rfl rfl rfl) rfl rfl ?_
         refine XR_a (op_gtr rfl rfl) rfl rfl ?_
         refine XR_nil ?_
         refine X_if rfl (fun h => ?_) (fun h => ?_)
         ·rw [if_pos (by omega)] at hN
          refine X_seq (X_reg (XV rfl rfl rfl (XV rfl rfl rfl (XV rfl rfl rfl ?_))))
          first | refine XR_a (op_field0 rfl rfl) rfl rfl ?_ | refine XR_a (op_fieldn rfl rfl) rfl rfl ?_
          refine XR_a (op_ld (st.cell 2 (i := 2) rfl rfl) rfl rfl rfl) rfl rfl ?_
          refine XR_wa (opl_call (class13_ref (fr := 0) (st.rdS 6 rfl).2 nb (st.rdS 7 rfl).2 okb (hr.ext st.low) hl hm hmc (by omega) (by omega) (by omega)) rfl (by kernel_rfl)) rfl rfl rfl ?_
          rintro _ hp ⟨rfl, hx8⟩
          replace st := st.ext hx8
          rw [hD]
          refine XV rfl rfl rfl (XR_a (op_extract rfl rfl) rfl rfl (XR_a (op_extract rfl rfl) rfl rfl (XR_a (op_extract rfl rfl) rfl rfl ?_)))
          refine XR_wn (opl_store_whole (us := clsV D.1) st 0 rfl rfl rfl rfl rfl (clsV_one _) rfl) rfl rfl fun _ hp st => ?_
          simp only [List.set_cons_zero, List.set_cons_succ] at st
          refine XA rfl rfl rfl (XA rfl rfl rfl (XR_nil (X_seq (X_seq (X_reg (XV rfl rfl rfl ?_))))))
          refine XR_a (op_neq rfl rfl) rfl rfl ?_
          refine XR_nil ?_
          refine X_if rfl (fun h => ?_) (fun h => ?_)
          ·rw [if_pos (by omega)] at hN
           subst hN
           rw [if_pos rfl, if_pos (by simp only; omega)] at hG
           subst hG
           refine X_seq (X_reg (XV rfl rfl rfl ?_))
           refine XR_a (op_build (ps := [(3, nV D.2.2)]) (cs := (tC (.slice none 0 0) 0 0 D.2.2).toArray) rfl rfl) rfl rfl ?_
           refine XR_wn (opl_store_whole (us := tC (.slice none 0 0) 0 0 D.2.2) st 8 rfl rfl rfl rfl rfl (tC_one rfl) rfl) rfl rfl fun _ hp st => ?_
           simp only [List.set_cons_zero, List.set_cons_succ] at st
           refine XR_nil ?_
           refine X_ret (.cons (RV_agg (vs := tC _ _ _ _) rfl rfl rfl (st.cells 8 rfl)) .nil) ?_
           exact ⟨_, rfl, rfl, (st.nilrow 65 3).keep 1⟩
          ·rw [if_neg (by omega)] at hN
           obtain ⟨J, hJ⟩ : ∃ J, joinT ⟨C.1, D.1, true⟩ = J := ⟨_, rfl⟩
           rw [hJ] at hN
           refine X_skip (X_reg (XV rfl rfl rfl ?_))
           first | refine XR_a (op_field0 rfl rfl) rfl rfl ?_ | refine XR_a (op_fieldn rfl rfl) rfl rfl ?_
           refine XR_wn (opl_store_pt st 2 rfl rfl rfl rfl rfl (rfl)) rfl rfl fun _ hp st => ?_
           simp only [List.set_cons_zero, List.set_cons_succ] at st
           replace st : St h0.size h0 hp [pt p18 80 (clsV D.1), pt p15 80 (clsV C.1), pt p14 31 (tC (.slice A9 n9 c9) sz D.2.1 0), row 65 3 (.slice A9 n9 c9) (acc.flatMap tokV), row 3 1 (.slice A1 273 c1) (X.1.map nV), row 3 1 (.slice V1 273 d1) ((vals X.1).map nV), row 3 1 (.slice A2 30 c2) (Y.1.map nV), row 3 1 (.slice V2 30 d2) ((vals Y.1).map nV), pt p6 31 (tC (.slice none 0 0) 0 0 0)] := st
           obtain ⟨at2, hat2⟩ : ∃ x, D.2.1 = x := ⟨_, rfl⟩
           rw [hat2] at hN st
           refine XR_nil (X_seq (X_reg ?_))
           refine XR_a (op_ldA (vs := clsV C.1) (st.cells 1 rfl) rfl rfl rfl rfl) rfl rfl ?_
           refine XR_a (op_ldA (vs := clsV D.1) (st.cells 0 rfl) rfl rfl rfl rfl) rfl rfl ?_
           first | refine XR_a (op_field0 rfl rfl) rfl rfl ?_ | refine XR_a (op_fieldn rfl rfl) rfl rfl ?_
           refine XR_a (op_ld (st.cell 1 (i := 0) rfl rfl) rfl rfl rfl) rfl rfl ?_
           refine XR_a (op_gtr rfl rfl) rfl rfl ?_
           refine XR_as (.bool true) (congrArg Value.bool (decide_eq_true (by omega))) ?_
           refine XR_wa (opl_call (join_ref (a := C.1) (b := D.1) (m := true) ⟨hC1.2.2.1, hC1.2.2.2⟩ ⟨hC2.2.2.1, hC2.2.2.2⟩ _) rfl (by kernel_rfl)) rfl rfl rfl ?_
           rintro _ hp ⟨rfl, hx5⟩
           replace st := st.ext hx5
           rw [hJ]
           refine XV rfl rfl rfl (XR_a (op_extract rfl rfl) rfl rfl (XR_a (op_extract rfl rfl) rfl rfl ?_))
           refine XR_wa (opl_new rfl) rfl rfl rfl ?_
           rintro _ hp ⟨p19, rfl, hnew⟩
           replace st := st.new hnew
           refine XR_wn (opl_store_whole (us := tokV J.1) st 0 rfl rfl rfl rfl rfl (tokV_one _) rfl) rfl rfl fun _ hp st => ?_
           simp only [List.set_cons_zero, List.set_cons_succ] at st
           refine XA rfl rfl rfl (XR_nil (X_seq (X_seq (X_reg (XV rfl rfl rfl ?_)))))
           first | refine XR_a (op_notd rfl) rfl rfl ?_ | refine XR_a (op_not rfl) rfl rfl ?_
           refine XV rfl rfl rfl ?_
           refine XR_split 123 rfl (fun h => ?_) (fun h => ?_)
           ·have hJ2 : ¬ J.2 = true := by simpa using h
            rw [if_neg hJ2] at hN
            subst hN
            rw [if_pos rfl, if_pos (by simp only; omega)] at hG
            subst hG
            refine XR_no rfl rfl (XR_no rfl rfl (XR_no rfl rfl (XR_no rfl rfl (XR_no rfl rfl (XR_a (op_pick_t rfl rfl) rfl rfl (XR_nil (X_then rfl (X_seq (X_reg ?_)))))))))
            refine XR_a (op_build (ps := [(3, nV 3)]) (cs := (tC (.slice none 0 0) 0 0 3).toArray) rfl rfl) rfl rfl ?_
            refine XR_wn (opl_store_whole (us := tC (.slice none 0 0) 0 0 3) st 9 rfl rfl rfl rfl rfl (tC_one rfl) rfl) rfl rfl fun _ hp st => ?_
            simp only [List.set_cons_zero, List.set_cons_succ] at st
            refine XR_nil ?_
            refine X_ret (.cons (RV_agg (vs := tC _ _ _ _) rfl rfl rfl (st.cells 9 rfl)) .nil) ?_
            exact ⟨_, rfl, rfl, (st.nilrow 65 3).keep 1⟩
           ·have hJ2 : J.2 = true := by simpa using h
            rw [if_pos hJ2] at hN
            subst hN
            obtain ⟨hlt2, _, hJr, hJb⟩ := hnx.2.2 rfl
            have hle2 := hnx.2.1
            simp only at hlt2 hJr hJb hle2
            have hJs := Tok.size_le hJr
            have hJl : 0 ≤ J.1.len ∧ J.1.len ≤ 258 ∧ 0 ≤ J.1.dist := by
             unfold Tok.right at hJr
             split at hJr <;> omega
            rw [if_neg (by simp)] at hG
            simp only at hG
            first | refine XR_a (op_field0 rfl rfl) rfl rfl ?_ | refine XR_a (op_fieldn rfl rfl) rfl rfl ?_
            refine XR_a (op_ld (st.cell 0 (i := 2) rfl rfl) rfl rfl rfl) rfl rfl ?_
            first | refine XR_a (op_field0 rfl rfl) rfl rfl ?_ | refine XR_a (op_fieldn rfl rfl) rfl rfl ?_
            refine XR_a (op_ld (st.cell 3 (i := 1) rfl rfl) rfl rfl rfl) rfl rfl ?_
            refine XR_a (op_gtr rfl rfl) rfl rfl ?_
            refine XR_a (op_pick_f rfl rfl) rfl rfl (XR_nil ?_)
            refine X_if rfl (fun h => ?_) (fun h => ?_)
            ·rw [if_pos (by omega)] at hG
             subst hG
             refine X_seq (X_reg ?_)
             refine XR_a (op_build (ps := [(3, nV 3)]) (cs := (tC (.slice none 0 0) 0 0 3).toArray) rfl rfl) rfl rfl ?_
             refine XR_wn (opl_store_whole (us := tC (.slice none 0 0) 0 0 3) st 9 rfl rfl rfl rfl rfl (tC_one rfl) rfl) rfl rfl fun _ hp st => ?_
             simp only [List.set_cons_zero, List.set_cons_succ] at st
             refine XR_nil ?_
             refine X_ret (.cons (RV_agg (vs := tC _ _ _ _) rfl rfl rfl (st.cells 9 rfl)) .nil) ?_
             exact ⟨_, rfl, rfl, (st.nilrow 65 3).keep 1⟩
            ·rw [if_neg (by omega)] at hG
             refine X_skip (X_seq (X_reg ?_))
             first | refine XR_a (op_field0 rfl rfl) rfl rfl ?_ | refine XR_a (op_fieldn rfl rfl) rfl rfl ?_
             refine XR_a (op_ld (st.cell 0 (i := 1) rfl rfl) rfl rfl rfl) rfl rfl ?_
             refine XA rfl rfl rfl (XR_nil (X_seq (X_seq (X_reg (XV rfl rfl rfl ?_)))))
             refine XR_a (op_eql rfl rfl) rfl rfl ?_
             refine XR_nil ?_
             refine X_if rfl (fun h => ?_) (fun h => ?_)
             ·have hJ1 : (J.1.size : Int) = 1 := by omega
              refine X_reg (XA rfl rfl rfl (XR_nil (X_seq (X_seq (X_reg ?_)))))
              first | refine XR_a (op_field0 rfl rfl) rfl rfl ?_ | refine XR_a (op_fieldn rfl rfl) rfl rfl ?_
              refine XR_a (op_ld (st.cell 3 (i := 1) rfl rfl) rfl rfl rfl) rfl rfl ?_
              refine XV rfl rfl rfl ?_
              refine XR_a (op_gtr rfl rfl) rfl rfl ?_
              refine XV rfl rfl rfl ?_
              refine XR_if 139 rfl (fun h => ?_) (fun h => ?_)
              ·rw [if_pos (by omega)] at hG
               subst hG
               refine XR_no rfl rfl (XR_no rfl rfl (XR_no rfl rfl (XR_no rfl rfl (XR_no rfl rfl (XR_no rfl rfl (XR_a (op_pick_t rfl rfl) rfl rfl (XR_nil (X_then rfl (X_seq ?_)))))))))
               refine X_reg ?_
               refine XR_a (op_build (ps := [(3, nV 5)]) (cs := (tC (.slice none 0 0) 0 0 5).toArray) rfl rfl) rfl rfl ?_
               refine XR_wn (opl_store_whole (us := tC (.slice none 0 0) 0 0 5) st 9 rfl rfl rfl rfl rfl (tC_one rfl) rfl) rfl rfl fun _ hp st => ?_
               simp only [List.set_cons_zero, List.set_cons_succ] at st
               refine XR_nil ?_
               refine X_ret (.cons (RV_agg (vs := tC _ _ _ _) rfl rfl rfl (st.cells 9 rfl)) .nil) ?_
               exact ⟨_, rfl, rfl, (st.nilrow 65 3).keep 1⟩
              ·refine XV rfl rfl rfl (XV rfl rfl rfl ?_)
               first | refine XR_a (op_field0 rfl rfl) rfl rfl ?_ | refine XR_a (op_fieldn rfl rfl) rfl rfl ?_
               refine XR_a (op_ld (st.cell 3 (i := 1) rfl rfl) rfl rfl rfl) rfl rfl ?_
               refine XR_a (op_subI rfl rfl (by simp only [inK]; omega)) rfl rfl ?_
               refine XR_a (op_gtr rfl rfl) rfl rfl ?_
               refine XR_a (op_pick_f rfl rfl) rfl rfl (XR_nil ?_)
               refine X_if rfl (fun h => ?_) (fun h => ?_)
               ·rw [if_pos (by omega)] at hG
                subst hG
                refine X_seq (X_reg ?_)
                refine XR_a (op_build (ps := [(3, nV 5)]) (cs := (tC (.slice none 0 0) 0 0 5).toArray) rfl rfl) rfl rfl ?_
                refine XR_wn (opl_store_whole (us := tC (.slice none 0 0) 0 0 5) st 9 rfl rfl rfl rfl rfl (tC_one rfl) rfl) rfl rfl fun _ hp st => ?_
                simp only [List.set_cons_zero, List.set_cons_succ] at st
                refine XR_nil ?_
                refine X_ret (.cons (RV_agg (vs := tC _ _ _ _) rfl rfl rfl (st.cells 9 rfl)) .nil) ?_
                exact ⟨_, rfl, rfl, (st.nilrow 65 3).keep 1⟩
               ·rw [if_neg (by omega)] at hG
                refine X_skip (X_seq (X_reg ?_))
                first | refine XR_a (op_field0 rfl rfl) rfl rfl ?_ | refine XR_a (op_fieldn rfl rfl) rfl rfl ?_
                refine XR_a (op_ld (st.cell 3 (i := 0) rfl rfl) rfl rfl rfl) rfl rfl ?_
                refine XR_a (op_ldA (vs := tokV J.1) (st.cells 0 rfl) rfl rfl rfl rfl) rfl rfl ?_
                refine XR_wa (opl_varA (us := tokV J.1) rfl rfl rfl rfl (by kernel_rfl)) rfl rfl rfl ?_
                rintro _ hp ⟨Aq, rfl, hxq, hrq⟩
                replace st := st.ext hxq
                refine XR_wa (opl_append st 4 rfl (hrq) (rfl) (tokV_one J.1) (by rw [flat_length _ 3 (fun _ => rfl)]; simp [tokV]; omega) rfl rfl rfl rfl rfl rfl rfl) rfl rfl rfl fun v hp st => ?_
                simp only [List.set_cons_zero, List.set_cons_succ] at st
                rw [show acc.flatMap tokV ++ tokV J.1 = (acc ++ [J.1]).flatMap tokV by rw [List.flatMap_append]; simp] at st
                obtain ⟨A8, n8, c8, rfl, hl8, _⟩ := st.row 4 rfl
                first | refine XR_a (op_field0 rfl rfl) rfl rfl ?_ | refine XR_a (op_fieldn rfl rfl) rfl rfl ?_
                refine XR_wn (opl_store_pt st 3 rfl rfl rfl rfl rfl (rfl)) rfl rfl fun _ hp st => ?_
                simp only [List.set_cons_zero, List.set_cons_succ] at st
                refine XR_nil (X_reg ?_)
                first | refine XR_a (op_field0 rfl rfl) rfl rfl ?_ | refine XR_a (op_fieldn rfl rfl) rfl rfl ?_
                refine XR_a (op_ld (st.cell 3 (i := 1) rfl rfl) rfl rfl rfl) rfl rfl ?_
                refine XV rfl rfl rfl ?_
                refine XR_a (op_addI rfl rfl (by simp only [inK]; omega)) rfl rfl ?_
                refine XR_as (nV (sz + J.1.size)) (congrArg (Value.int .i64) (by omega)) ?_
                first | refine XR_a (op_field0 rfl rfl) rfl rfl ?_ | refine XR_a (op_fieldn rfl rfl) rfl rfl ?_
                refine XR_wn (opl_store_pt st 3 rfl rfl rfl rfl rfl (rfl)) rfl rfl fun _ hp st => ?_
                simp only [List.set_cons_zero, List.set_cons_succ] at st
                refine XR_nil (X_blk ?_)
                refine X_again (g, at2, sz + J.1.size, acc ++ [J.1], .slice A8 n8 c8) (.cons rfl (.cons rfl (.cons rfl (.cons rfl (.cons rfl (.cons rfl (.cons rfl (.cons rfl (.nil _))))))))) ⟨by simp only; omega, by simp only; omega, by simp only [List.length_append, List.length_singleton]; omega, hG, by simp only [List.length_append, List.length_singleton]; omega, ?_⟩ (by simp only; omega)
                ·have st9 := st.tail.tail.tail
                 exact st9
             ·have hJ1 : (J.1.size : Int) = J.1.len := by omega
              refine X_skip (X_seq (X_seq (X_reg ?_)))
              first | refine XR_a (op_field0 rfl rfl) rfl rfl ?_ | refine XR_a (op_fieldn rfl rfl) rfl rfl ?_
              refine XR_a (op_ld (st.cell 3 (i := 1) rfl rfl) rfl rfl rfl) rfl rfl ?_
              refine XV rfl rfl rfl ?_
              refine XR_a (op_gtr rfl rfl) rfl rfl ?_
              refine XV rfl rfl rfl ?_
              refine XR_if 139 rfl (fun h => ?_) (fun h => ?_)
              ·rw [if_pos (by omega)] at hG
               subst hG
               refine XR_no rfl rfl (XR_no rfl rfl (XR_no rfl rfl (XR_no rfl rfl (XR_no rfl rfl (XR_no rfl rfl (XR_a (op_pick_t rfl rfl) rfl rfl (XR_nil (X_then rfl (X_seq ?_)))))))))
               refine X_reg ?_
               refine XR_a (op_build (ps := [(3, nV 5)]) (cs := (tC (.slice none 0 0) 0 0 5).toArray) rfl rfl) rfl rfl ?_
               refine XR_wn (opl_store_whole (us := tC (.slice none 0 0) 0 0 5) st 9 rfl rfl rfl rfl rfl (tC_one rfl) rfl) rfl rfl fun _ hp st => ?_
               simp only [List.set_cons_zero, List.set_cons_succ] at st
               refine XR_nil ?_
               refine X_ret (.cons (RV_agg (vs := tC _ _ _ _) rfl rfl rfl (st.cells 9 rfl)) .nil) ?_
               exact ⟨_, rfl, rfl, (st.nilrow 65 3).keep 1⟩
              ·refine XV rfl rfl rfl (XV rfl rfl rfl ?_)
               first | refine XR_a (op_field0 rfl rfl) rfl rfl ?_ | refine XR_a (op_fieldn rfl rfl) rfl rfl ?_
               refine XR_a (op_ld (st.cell 3 (i := 1) rfl rfl) rfl rfl rfl) rfl rfl ?_
               refine XR_a (op_subI rfl rfl (by simp only [inK]; omega)) rfl rfl ?_
               refine XR_a (op_gtr rfl rfl) rfl rfl ?_
               refine XR_a (op_pick_f rfl rfl) rfl rfl (XR_nil ?_)
               refine X_if rfl (fun h => ?_) (fun h => ?_)
               ·rw [if_pos (by omega)] at hG
                subst hG
                refine X_seq (X_reg ?_)
                refine XR_a (op_build (ps := [(3, nV 5)]) (cs := (tC (.slice none 0 0) 0 0 5).toArray) rfl rfl) rfl rfl ?_
                refine XR_wn (opl_store_whole (us := tC (.slice none 0 0) 0 0 5) st 9 rfl rfl rfl rfl rfl (tC_one rfl) rfl) rfl rfl fun _ hp st => ?_
                simp only [List.set_cons_zero, List.set_cons_succ] at st
                refine XR_nil ?_
                refine X_ret (.cons (RV_agg (vs := tC _ _ _ _) rfl rfl rfl (st.cells 9 rfl)) .nil) ?_
                exact ⟨_, rfl, rfl, (st.nilrow 65 3).keep 1⟩
               ·rw [if_neg (by omega)] at hG
                refine X_skip (X_seq (X_reg ?_))
                first | refine XR_a (op_field0 rfl rfl) rfl rfl ?_ | refine XR_a (op_fieldn rfl rfl) rfl rfl ?_
                refine XR_a (op_ld (st.cell 3 (i := 0) rfl rfl) rfl rfl rfl) rfl rfl ?_
                refine XR_a (op_ldA (vs := tokV J.1) (st.cells 0 rfl) rfl rfl rfl rfl) rfl rfl ?_
                refine XR_wa (opl_varA (us := tokV J.1) rfl rfl rfl rfl (by kernel_rfl)) rfl rfl rfl ?_
                rintro _ hp ⟨Aq, rfl, hxq, hrq⟩
                replace st := st.ext hxq
                refine XR_wa (opl_append st 4 rfl (hrq) (rfl) (tokV_one J.1) (by rw [flat_length _ 3 (fun _ => rfl)]; simp [tokV]; omega) rfl rfl rfl rfl rfl rfl rfl) rfl rfl rfl fun v hp st => ?_
                simp only [List.set_cons_zero, List.set_cons_succ] at st
                rw [show acc.flatMap tokV ++ tokV J.1 = (acc ++ [J.1]).flatMap tokV by rw [List.flatMap_append]; simp] at st
                obtain ⟨A8, n8, c8, rfl, hl8, _⟩ := st.row 4 rfl
                first | refine XR_a (op_field0 rfl rfl) rfl rfl ?_ | refine XR_a (op_fieldn rfl rfl) rfl rfl ?_
                refine XR_wn (opl_store_pt st 3 rfl rfl rfl rfl rfl (rfl)) rfl rfl fun _ hp st => ?_
                simp only [List.set_cons_zero, List.set_cons_succ] at st
                refine XR_nil (X_reg ?_)
                first | refine XR_a (op_field0 rfl rfl) rfl rfl ?_ | refine XR_a (op_fieldn rfl rfl) rfl rfl ?_
                refine XR_a (op_ld (st.cell 3 (i := 1) rfl rfl) rfl rfl rfl) rfl rfl ?_
                refine XV rfl rfl rfl ?_
                refine XR_a (op_addI rfl rfl (by simp only [inK]; omega)) rfl rfl ?_
                refine XR_as (nV (sz + J.1.size)) (congrArg (Value.int .i64) (by omega)) ?_
                first | refine XR_a (op_field0 rfl rfl) rfl rfl ?_ | refine XR_a (op_fieldn rfl rfl) rfl rfl ?_
                refine XR_wn (opl_store_pt st 3 rfl rfl rfl rfl rfl (rfl)) rfl rfl fun _ hp st => ?_
                simp only [List.set_cons_zero, List.set_cons_succ] at st
                refine XR_nil (X_blk ?_)
                refine X_again (g, at2, sz + J.1.size, acc ++ [J.1], .slice A8 n8 c8) (.cons rfl (.cons rfl (.cons rfl (.cons rfl (.cons rfl (.cons rfl (.cons rfl (.cons rfl (.nil _))))))))) ⟨by simp only; omega, by simp only; omega, by simp only [List.length_append, List.length_singleton]; omega, hG, by simp only [List.length_append, List.length_singleton]; omega, ?_⟩ (by simp only; omega)
                ·have st9 := st.tail.tail.tail
                 exact st9
         ·rw [if_neg (by omega)] at hN
          obtain ⟨J, hJ⟩ : ∃ J, joinT ⟨C.1, Kls.nil, false⟩ = J := ⟨_, rfl⟩
          rw [hJ] at hN
          obtain ⟨at2, hat2⟩ : ∃ x, C.2.1 = x := ⟨_, rfl⟩
          rw [hat2] at hN st
          refine X_skip (X_seq (X_reg ?_))
          refine XR_a (op_ldA (vs := clsV C.1) (st.cells 1 rfl) rfl rfl rfl rfl) rfl rfl ?_
          refine XR_a (op_ldA (vs := clsV Kls.nil) (st.cells 0 rfl) rfl rfl rfl rfl) rfl rfl ?_
          first | refine XR_a (op_field0 rfl rfl) rfl rfl ?_ | refine XR_a (op_fieldn rfl rfl) rfl rfl ?_
          refine XR_a (op_ld (st.cell 1 (i := 0) rfl rfl) rfl rfl rfl) rfl rfl ?_
          refine XR_a (op_gtr rfl rfl) rfl rfl ?_
          refine XR_as (.bool false) (congrArg Value.bool (decide_eq_false (by omega))) ?_
          refine XR_wa (opl_call (join_ref (a := C.1) (b := Kls.nil) (m := false) ⟨hC1.2.2.1, hC1.2.2.2⟩ ⟨Int.le_refl 0, by show (0 : Int) < 4294967296; omega⟩ _) rfl (by kernel_rfl)) rfl rfl rfl ?_
          rintro _ hp ⟨rfl, hx5⟩
          replace st := st.ext hx5
          rw [hJ]
          refine XV rfl rfl rfl (XR_a (op_extract rfl rfl) rfl rfl (XR_a (op_extract rfl rfl) rfl rfl ?_))
          refine XR_wa (opl_new rfl) rfl rfl rfl ?_
          rintro _ hp ⟨p19, rfl, hnew⟩
          replace st := st.new hnew
          refine XR_wn (opl_store_whole (us := tokV J.1) st 0 rfl rfl rfl rfl rfl (tokV_one _) rfl) rfl rfl fun _ hp st => ?_
          simp only [List.set_cons_zero, List.set_cons_succ] at st
          refine XA rfl rfl rfl (XR_nil (X_seq (X_seq (X_reg (XV rfl rfl rfl ?_)))))
          first | refine XR_a (op_notd rfl) rfl rfl ?_ | refine XR_a (op_not rfl) rfl rfl ?_
          refine XV rfl rfl rfl ?_
          refine XR_split 123 rfl (fun h => ?_) (fun h => ?_)
          ·have hJ2 : ¬ J.2 = true := by simpa using h
           rw [if_neg hJ2] at hN
           subst hN
           rw [if_pos rfl, if_pos (by simp only; omega)] at hG
           subst hG
           refine XR_no rfl rfl (XR_no rfl rfl (XR_no rfl rfl (XR_no rfl rfl (XR_no rfl rfl (XR_a (op_pick_t rfl rfl) rfl rfl (XR_nil (X_then rfl (X_seq (X_reg ?_)))))))))
           refine XR_a (op_build (ps := [(3, nV 3)]) (cs := (tC (.slice none 0 0) 0 0 3).toArray) rfl rfl) rfl rfl ?_
           refine XR_wn (opl_store_whole (us := tC (.slice none 0 0) 0 0 3) st 9 rfl rfl rfl rfl rfl (tC_one rfl) rfl) rfl rfl fun _ hp st => ?_
           simp only [List.set_cons_zero, List.set_cons_succ] at st
           refine XR_nil ?_
           refine X_ret (.cons (RV_agg (vs := tC _ _ _ _) rfl rfl rfl (st.cells 9 rfl)) .nil) ?_
           exact ⟨_, rfl, rfl, (st.nilrow 65 3).keep 1⟩
          ·have hJ2 : J.2 = true := by simpa using h
           rw [if_pos hJ2] at hN
           subst hN
           obtain ⟨hlt2, _, hJr, hJb⟩ := hnx.2.2 rfl
           have hle2 := hnx.2.1
           simp only at hlt2 hJr hJb hle2
           have hJs := Tok.size_le hJr
           have hJl : 0 ≤ J.1.len ∧ J.1.len ≤ 258 ∧ 0 ≤ J.1.dist := by
            unfold Tok.right at hJr
            split at hJr <;> omega
           rw [if_neg (by simp)] at hG
           simp only at hG
           first | refine XR_a (op_field0 rfl rfl) rfl rfl ?_ | refine XR_a (op_fieldn rfl rfl) rfl rfl ?_
           refine XR_a (op_ld (st.cell 0 (i := 2) rfl rfl) rfl rfl rfl) rfl rfl ?_
           first | refine XR_a (op_field0 rfl rfl) rfl rfl ?_ | refine XR_a (op_fieldn rfl rfl) rfl rfl ?_
           refine XR_a (op_ld (st.cell 3 (i := 1) rfl rfl) rfl rfl rfl) rfl rfl ?_
           refine XR_a (op_gtr rfl rfl) rfl rfl ?_
           refine XR_a (op_pick_f rfl rfl) rfl rfl (XR_nil ?_)
           refine X_if rfl (fun h => ?_) (fun h => ?_)
           ·rw [if_pos (by omega)] at hG
            subst hG
            refine X_seq (X_reg ?_)
            refine XR_a (op_build (ps := [(3, nV 3)]) (cs := (tC (.slice none 0 0) 0 0 3).toArray) rfl rfl) rfl rfl ?_
            refine XR_wn (opl_store_whole (us := tC (.slice none 0 0) 0 0 3) st 9 rfl rfl rfl rfl rfl (tC_one rfl) rfl) rfl rfl fun _ hp st => ?_
            simp only [List.set_cons_zero, List.set_cons_succ] at st
            refine XR_nil ?_
            refine X_ret (.cons (RV_agg (vs := tC _ _ _ _) rfl rfl rfl (st.cells 9 rfl)) .nil) ?_
            exact ⟨_, rfl, rfl, (st.nilrow 65 3).keep 1⟩
           ·rw [if_neg (by omega)] at hG
            refine X_skip (X_seq (X_reg ?_))
            first | refine XR_a (op_field0 rfl rfl) rfl rfl ?_ | refine XR_a (op_fieldn rfl rfl) rfl rfl ?_
            refine XR_a (op_ld (st.cell 0 (i := 1) rfl rfl) rfl rfl rfl) rfl rfl ?_
            refine XA rfl rfl rfl (XR_nil (X_seq (X_seq (X_reg (XV rfl rfl rfl ?_)))))
            refine XR_a (op_eql rfl rfl) rfl rfl ?_
            refine XR_nil ?_
            refine X_if rfl (fun h => ?_) (fun h => ?_)
            ·have hJ1 : (J.1.size : Int) = 1 := by omega
             refine X_reg (XA rfl rfl rfl (XR_nil (X_seq (X_seq (X_reg ?_)))))
             first | refine XR_a (op_field0 rfl rfl) rfl rfl ?_ | refine XR_a (op_fieldn rfl rfl) rfl rfl ?_
             refine XR_a (op_ld (st.cell 3 (i := 1) rfl rfl) rfl rfl rfl) rfl rfl ?_
             refine XV rfl rfl rfl ?_
             refine XR_a (op_gtr rfl rfl) rfl rfl ?_
             refine XV rfl rfl rfl ?_
             refine XR_if 139 rfl (fun h => ?_) (fun h => ?_)
             ·rw [if_pos (by omega)] at hG
              subst hG
              refine XR_no rfl rfl (XR_no rfl rfl (XR_no rfl rfl (XR_no rfl rfl (XR_no rfl rfl (XR_no rfl rfl (XR_a (op_pick_t rfl rfl) rfl rfl (XR_nil (X_then rfl (X_seq ?_)))))))))
              refine X_reg ?_
              refine XR_a (op_build (ps := [(3, nV 5)]) (cs := (tC (.slice none 0 0) 0 0 5).toArray) rfl rfl) rfl rfl ?_
              refine XR_wn (opl_store_whole (us := tC (.slice none 0 0) 0 0 5) st 9 rfl rfl rfl rfl rfl (tC_one rfl) rfl) rfl rfl fun _ hp st => ?_
              simp only [List.set_cons_zero, List.set_cons_succ] at st
              refine XR_nil ?_
              refine X_ret (.cons (RV_agg (vs := tC _ _ _ _) rfl rfl rfl (st.cells 9 rfl)) .nil) ?_
              exact ⟨_, rfl, rfl, (st.nilrow 65 3).keep 1⟩
             ·refine XV rfl rfl rfl (XV rfl rfl rfl ?_)
              first | refine XR_a (op_field0 rfl rfl) rfl rfl ?_ | refine XR_a (op_fieldn rfl rfl) rfl rfl ?_
              refine XR_a (op_ld (st.cell 3 (i := 1) rfl rfl) rfl rfl rfl) rfl rfl ?_
              refine XR_a (op_subI rfl rfl (by simp only [inK]; omega)) rfl rfl ?_
              refine XR_a (op_gtr rfl rfl) rfl rfl ?_
              refine XR_a (op_pick_f rfl rfl) rfl rfl (XR_nil ?_)
              refine X_if rfl (fun h => ?_) (fun h => ?_)
              ·rw [if_pos (by omega)] at hG
               subst hG
               refine X_seq (X_reg ?_)
               refine XR_a (op_build (ps := [(3, nV 5)]) (cs := (tC (.slice none 0 0) 0 0 5).toArray) rfl rfl) rfl rfl ?_
               refine XR_wn (opl_store_whole (us := tC (.slice none 0 0) 0 0 5) st 9 rfl rfl rfl rfl rfl (tC_one rfl) rfl) rfl rfl fun _ hp st => ?_
               simp only [List.set_cons_zero, List.set_cons_succ] at st
               refine XR_nil ?_
               refine X_ret (.cons (RV_agg (vs := tC _ _ _ _) rfl rfl rfl (st.cells 9 rfl)) .nil) ?_
               exact ⟨_, rfl, rfl, (st.nilrow 65 3).keep 1⟩
              ·rw [if_neg (by omega)] at hG
               refine X_skip (X_seq (X_reg ?_))
               first | refine XR_a (op_field0 rfl rfl) rfl rfl ?_ | refine XR_a (op_fieldn rfl rfl) rfl rfl ?_
               refine XR_a (op_ld (st.cell 3 (i := 0) rfl rfl) rfl rfl rfl) rfl rfl ?_
               refine XR_a (op_ldA (vs := tokV J.1) (st.cells 0 rfl) rfl rfl rfl rfl) rfl rfl ?_
               refine XR_wa (opl_varA (us := tokV J.1) rfl rfl rfl rfl (by kernel_rfl)) rfl rfl rfl ?_
               rintro _ hp ⟨Aq, rfl, hxq, hrq⟩
               replace st := st.ext hxq
               refine XR_wa (opl_append st 4 rfl (hrq) (rfl) (tokV_one J.1) (by rw [flat_length _ 3 (fun _ => rfl)]; simp [tokV]; omega) rfl rfl rfl rfl rfl rfl rfl) rfl rfl rfl fun v hp st => ?_
               simp only [List.set_cons_zero, List.set_cons_succ] at st
               rw [show acc.flatMap tokV ++ tokV J.1 = (acc ++ [J.1]).flatMap tokV by rw [List.flatMap_append]; simp] at st
               obtain ⟨A8, n8, c8, rfl, hl8, _⟩ := st.row 4 rfl
               first | refine XR_a (op_field0 rfl rfl) rfl rfl ?_ | refine XR_a (op_fieldn rfl rfl) rfl rfl ?_
               refine XR_wn (opl_store_pt st 3 rfl rfl rfl rfl rfl (rfl)) rfl rfl fun _ hp st => ?_
               simp only [List.set_cons_zero, List.set_cons_succ] at st
               refine XR_nil (X_reg ?_)
               first | refine XR_a (op_field0 rfl rfl) rfl rfl ?_ | refine XR_a (op_fieldn rfl rfl) rfl rfl ?_
               refine XR_a (op_ld (st.cell 3 (i := 1) rfl rfl) rfl rfl rfl) rfl rfl ?_
               refine XV rfl rfl rfl ?_
               refine XR_a (op_addI rfl rfl (by simp only [inK]; omega)) rfl rfl ?_
               refine XR_as (nV (sz + J.1.size)) (congrArg (Value.int .i64) (by omega)) ?_
               first | refine XR_a (op_field0 rfl rfl) rfl rfl ?_ | refine XR_a (op_fieldn rfl rfl) rfl rfl ?_
               refine XR_wn (opl_store_pt st 3 rfl rfl rfl rfl rfl (rfl)) rfl rfl fun _ hp st => ?_
               simp only [List.set_cons_zero, List.set_cons_succ] at st
               refine XR_nil (X_blk ?_)
               refine X_again (g, at2, sz + J.1.size, acc ++ [J.1], .slice A8 n8 c8) (.cons rfl (.cons rfl (.cons rfl (.cons rfl (.cons rfl (.cons rfl (.cons rfl (.cons rfl (.nil _))))))))) ⟨by simp only; omega, by simp only; omega, by simp only [List.length_append, List.length_singleton]; omega, hG, by simp only [List.length_append, List.length_singleton]; omega, ?_⟩ (by simp only; omega)
               ·have st9 := st.tail.tail.tail
                exact st9
            ·have hJ1 : (J.1.size : Int) = J.1.len := by omega
             refine X_skip (X_seq (X_seq (X_reg ?_)))
             first | refine XR_a (op_field0 rfl rfl) rfl rfl ?_ | refine XR_a (op_fieldn rfl rfl) rfl rfl ?_
             refine XR_a (op_ld (st.cell 3 (i := 1) rfl rfl) rfl rfl rfl) rfl rfl ?_
             refine XV rfl rfl rfl ?_
             refine XR_a (op_gtr rfl rfl) rfl rfl ?_
             refine XV rfl rfl rfl ?_
             refine XR_if 139 rfl (fun h => ?_) (fun h => ?_)
             ·rw [if_pos (by omega)] at hG
              subst hG
              refine XR_no rfl rfl (XR_no rfl rfl (XR_no rfl rfl (XR_no rfl rfl (XR_no rfl rfl (XR_no rfl rfl (XR_a (op_pick_t rfl rfl) rfl rfl (XR_nil (X_then rfl (X_seq ?_)))))))))
              refine X_reg ?_
              refine XR_a (op_build (ps := [(3, nV 5)]) (cs := (tC (.slice none 0 0) 0 0 5).toArray) rfl rfl) rfl rfl ?_
              refine XR_wn (opl_store_whole (us := tC (.slice none 0 0) 0 0 5) st 9 rfl rfl rfl rfl rfl (tC_one rfl) rfl) rfl rfl fun _ hp st => ?_
              simp only [List.set_cons_zero, List.set_cons_succ] at st
              refine XR_nil ?_
              refine X_ret (.cons (RV_agg (vs := tC _ _ _ _) rfl rfl rfl (st.cells 9 rfl)) .nil) ?_
              exact ⟨_, rfl, rfl, (st.nilrow 65 3).keep 1⟩
             ·refine XV rfl rfl rfl (XV rfl rfl rfl ?_)
              first | refine XR_a (op_field0 rfl rfl) rfl rfl ?_ | refine XR_a (op_fieldn rfl rfl) rfl rfl ?_
              refine XR_a (op_ld (st.cell 3 (i := 1) rfl rfl) rfl rfl rfl) rfl rfl ?_
              refine XR_a (op_subI rfl rfl (by simp only [inK]; omega)) rfl rfl ?_
              refine XR_a (op_gtr rfl rfl) rfl rfl ?_
              refine XR_a (op_pick_f rfl rfl) rfl rfl (XR_nil ?_)
              refine X_if rfl (fun h => ?_) (fun h => ?_)
              ·rw [if_pos (by omega)] at hG
               subst hG
               refine X_seq (X_reg ?_)
               refine XR_a (op_build (ps := [(3, nV 5)]) (cs := (tC (.slice none 0 0) 0 0 5).toArray) rfl rfl) rfl rfl ?_
               refine XR_wn (opl_store_whole (us := tC (.slice none 0 0) 0 0 5) st 9 rfl rfl rfl rfl rfl (tC_one rfl) rfl) rfl rfl fun _ hp st => ?_
               simp only [List.set_cons_zero, List.set_cons_succ] at st
               refine XR_nil ?_
               refine X_ret (.cons (RV_agg (vs := tC _ _ _ _) rfl rfl rfl (st.cells 9 rfl)) .nil) ?_
               exact ⟨_, rfl, rfl, (st.nilrow 65 3).keep 1⟩
              ·rw [if_neg (by omega)] at hG
               refine X_skip (X_seq (X_reg ?_))
               first | refine XR_a (op_field0 rfl rfl) rfl rfl ?_ | refine XR_a (op_fieldn rfl rfl) rfl rfl ?_
               refine XR_a (op_ld (st.cell 3 (i := 0) rfl rfl) rfl rfl rfl) rfl rfl ?_
               refine XR_a (op_ldA (vs := tokV J.1) (st.cells 0 rfl) rfl rfl rfl rfl) rfl rfl ?_
               refine XR_wa (opl_varA (us := tokV J.1) rfl rfl rfl rfl (by kernel_rfl)) rfl rfl rfl ?_
               rintro _ hp ⟨Aq, rfl, hxq, hrq⟩
               replace st := st.ext hxq
               refine XR_wa (opl_append st 4 rfl (hrq) (rfl) (tokV_one J.1) (by rw [flat_length _ 3 (fun _ => rfl)]; simp [tokV]; omega) rfl rfl rfl rfl rfl rfl rfl) rfl rfl rfl fun v hp st => ?_
               simp only [List.set_cons_zero, List.set_cons_succ] at st
               rw [show acc.flatMap tokV ++ tokV J.1 = (acc ++ [J.1]).flatMap tokV by rw [List.flatMap_append]; simp] at st
               obtain ⟨A8, n8, c8, rfl, hl8, _⟩ := st.row 4 rfl
               first | refine XR_a (op_field0 rfl rfl) rfl rfl ?_ | refine XR_a (op_fieldn rfl rfl) rfl rfl ?_
               refine XR_wn (opl_store_pt st 3 rfl rfl rfl rfl rfl (rfl)) rfl rfl fun _ hp st => ?_
               simp only [List.set_cons_zero, List.set_cons_succ] at st
               refine XR_nil (X_reg ?_)
               first | refine XR_a (op_field0 rfl rfl) rfl rfl ?_ | refine XR_a (op_fieldn rfl rfl) rfl rfl ?_
               refine XR_a (op_ld (st.cell 3 (i := 1) rfl rfl) rfl rfl rfl) rfl rfl ?_
               refine XV rfl rfl rfl ?_
               refine XR_a (op_addI rfl rfl (by simp only [inK]; omega)) rfl rfl ?_
               refine XR_as (nV (sz + J.1.size)) (congrArg (Value.int .i64) (by omega)) ?_
               first | refine XR_a (op_field0 rfl rfl) rfl rfl ?_ | refine XR_a (op_fieldn rfl rfl) rfl rfl ?_
               refine XR_wn (opl_store_pt st 3 rfl rfl rfl rfl rfl (rfl)) rfl rfl fun _ hp st => ?_
               simp only [List.set_cons_zero, List.set_cons_succ] at st
               refine XR_nil (X_blk ?_)
               refine X_again (g, at2, sz + J.1.size, acc ++ [J.1], .slice A8 n8 c8) (.cons rfl (.cons rfl (.cons rfl (.cons rfl (.cons rfl (.cons rfl (.cons rfl (.cons rfl (.nil _))))))))) ⟨by simp only; omega, by simp only; omega, by simp only [List.length_append, List.length_singleton]; omega, hG, by simp only [List.length_append, List.length_singleton]; omega, ?_⟩ (by simp only; omega)
               ·have st9 := st.tail.tail.tail
                exact st9
end Go.Bn
end

section
set_option linter.unusedVariables false
set_option linter.unusedSimpArgs false
set_option maxHeartbeats 4000000
set_option maxRecDepth 20000
namespace Go.Bn
open Go Proofs
theorem unpack14_ref {m c : Nat} {mt size : Int} {A : Option Addr} {l : List UInt8} {h0 : Heap} (hr : Rd h0 A (l.map byteV)) (hl : l.length = m) (hm : m ≤ 131072) (hmc : m ≤ c) :
  Ret Tryz.prog 25 [.int .i64 mt, .slice A m c, .int .i64 size] h0 fun v h' => ∃ A' g' c', v = retVal [.slice A' g' c', nV (unpackU mt l size).2] ∧ (unpackU mt l size).1.length = g' ∧ g' ≤ c' ∧ Rd h' A' ((unpackU mt l size).1.map byteV) ∧ Ext h0 h' := by
 obtain ⟨U, hU⟩ : ∃ U, unpackU mt l size = U := ⟨_, rfl⟩
 rw [hU]
 unfold unpackU at hU
 have hpe := pieces_err l
 have hpl := pieces_len l
 have hbl := bitsB_length l
 refine ret_of_X Tryz.func25 rfl rfl fun w0 hw0 => ?_
 simp only [argE, Nat.zero_add, Nat.reduceAdd]
 have st := St.start h0
 refine X_seq (X_reg (XA rfl rfl rfl (XA rfl rfl rfl (XR_nil (X_seq (X_seq (X_reg (XV rfl rfl rfl ?_))))))))
 refine XR_a (op_lss rfl rfl) rfl rfl ?_
 refine XV rfl rfl rfl ?_
 refine XR_if 15 rfl (fun h => ?_) (fun h => ?_)
 ·rw [if_pos (by omega)] at hU
  subst hU
  refine XR_no rfl rfl (XR_no rfl rfl (XR_a (op_pick_t rfl rfl) rfl rfl (XR_nil (X_then rfl (X_seq (X_reg (XA rfl rfl rfl (XA rfl rfl rfl (XR_nil ?_)))))))))
  refine X_ret (.cons (.tmp rfl) (.cons (.tmp rfl) .nil)) ?_
  exact ⟨none, 0, 0, rfl, rfl, Nat.le_refl _, Rd.nil _ _, st.low⟩
 ·refine XV rfl rfl rfl ?_
  refine XR_a (op_gtr rfl rfl) rfl rfl ?_
  refine XR_a (op_pick_f rfl rfl) rfl rfl (XR_nil ?_)
  refine X_if rfl (fun h => ?_) (fun h => ?_)
  ·rw [if_pos (by omega)] at hU
   subst hU
   refine X_seq (X_reg (XA rfl rfl rfl (XA rfl rfl rfl (XR_nil ?_))))
   refine X_ret (.cons (.tmp rfl) (.cons (.tmp rfl) .nil)) ?_
   exact ⟨none, 0, 0, rfl, rfl, Nat.le_refl _, Rd.nil _ _, st.low⟩
  ·rw [if_neg (by omega)] at hU
   refine X_skip (X_seq (X_seq (X_reg (XV rfl rfl rfl ?_))))
   refine XR_a (op_lss rfl rfl) rfl rfl ?_
   refine XV rfl rfl rfl ?_
   refine XR_if 21 rfl (fun h => ?_) (fun h => ?_)
   ·rw [if_pos (by omega)] at hU
    subst hU
    refine XR_no rfl rfl (XR_no rfl rfl (XR_a (op_pick_t rfl rfl) rfl rfl (XR_nil (X_then rfl (X_seq (X_reg (XA rfl rfl rfl (XA rfl rfl rfl (XR_nil ?_)))))))))
    refine X_ret (.cons (.tmp rfl) (.cons (.tmp rfl) .nil)) ?_
    exact ⟨none, 0, 0, rfl, rfl, Nat.le_refl _, Rd.nil _ _, st.low⟩
   ·refine XV rfl rfl rfl ?_
    refine XR_a (op_gtr rfl rfl) rfl rfl ?_
    refine XR_a (op_pick_f rfl rfl) rfl rfl (XR_nil ?_)
    refine X_if rfl (fun h => ?_) (fun h => ?_)
    ·rw [if_pos (by omega)] at hU
     subst hU
     refine X_seq (X_reg (XA rfl rfl rfl (XA rfl rfl rfl (XR_nil ?_))))
     refine X_ret (.cons (.tmp rfl) (.cons (.tmp rfl) .nil)) ?_
     exact ⟨none, 0, 0, rfl, rfl, Nat.le_refl _, Rd.nil _ _, st.low⟩
    ·rw [if_neg (by omega)] at hU
     obtain ⟨s, rfl⟩ : ∃ s : Nat, size = (s : Int) := ⟨size.toNat, by omega⟩
     refine X_skip (X_seq (X_reg (XV rfl rfl rfl (XA rfl rfl rfl (XR_nil (X_seq (X_seq (X_reg (XV rfl rfl rfl ?_)))))))))
     refine XR_a (op_eql rfl rfl) rfl rfl ?_
     refine XR_nil ?_
     refine X_if rfl (fun h => ?_) (fun h => ?_)
     ·rw [if_pos h] at hU
      have hok := blockT_ok (bs := bitsB l) (most := (s : Int)) (by omega)
      obtain ⟨T, hT⟩ : ∃ T, blockT (bitsB l) s = T := ⟨_, rfl⟩
      rw [hT] at hU hok
      refine X_seq (X_reg (XV rfl rfl rfl ?_))
      refine XR_wa (opl_call (unpack_ref hr hl (by omega)) rfl (by kernel_rfl)) rfl rfl rfl ?_
      rintro v9 hp2 st2
      replace st := st.join st2
      simp only [List.cons_append, List.nil_append] at st
      clear st2
      obtain ⟨A9, n9, c9, rfl, hl9, hn9, _, hr9⟩ := st.row 0 rfl
      rw [List.length_map, b01_length, Nat.mul_one] at hl9
      refine XA rfl rfl rfl (XR_nil (X_seq (X_reg (XV rfl rfl rfl (XV rfl rfl rfl ?_)))))
      refine XR_wa (opl_call (take13_ref (most := (s : Int)) hr9 hl9 (by omega) hn9 (by simp only [inK]; omega)) rfl (by kernel_rfl)) rfl rfl rfl ?_
      rintro _ hp3 ⟨w, rfl, hw1, st3⟩
      rw [hT] at st3 ⊢
      have hr9 := hr9.ext st3.low
      replace st := st.join st3
      simp only [List.cons_append, List.nil_append] at st
      clear st3
      refine XR_wa (opl_new rfl) rfl rfl rfl ?_
      rintro _ hp ⟨p10, rfl, hnew⟩
      replace st := st.new hnew
      refine XR_wn (opl_store_whole (us := tC w T.2.1 T.2.2.1 T.2.2.2) st 0 rfl rfl rfl rfl rfl (tC_one hw1) rfl) rfl rfl fun _ hp st => ?_
      simp only [List.set_cons_zero, List.set_cons_succ] at st
      have hr9 := (st.rdS 2 rfl).2
      refine XR_nil (X_seq (X_seq (X_reg ?_)))
      first | refine XR_a (op_field0 rfl rfl) rfl rfl ?_ | refine XR_a (op_fieldn rfl rfl) rfl rfl ?_
      refine XR_a (op_ld (st.cell 0 (i := 3) rfl rfl) rfl rfl rfl) rfl rfl ?_
      refine XR_a (op_neq rfl rfl) rfl rfl ?_
      refine XR_nil ?_
      refine X_if rfl (fun h => ?_) (fun h => ?_)
      ·rw [if_pos (by omega)] at hU
       subst hU
       refine X_seq ?_
       refine X_draw byKind (by kernel_rfl) (by kernel_rfl) ?_
       first | refine XR_a (op_field0 rfl rfl) rfl rfl ?_ | refine XR_a (op_fieldn rfl rfl) rfl rfl ?_
       refine XR_a (op_ld (st.cell 0 (i := 3) rfl rfl) rfl rfl rfl) rfl rfl ?_
       refine XA rfl rfl rfl (XA rfl rfl rfl (XR_nil ?_))
       refine X_ret (.cons (.tmp rfl) (.cons (.tmp rfl) .nil)) ?_
       exact ⟨none, 0, 0, rfl, rfl, Nat.le_refl _, Rd.nil _ _, st.low⟩
      ·have hT0 : T.2.2.2 = 0 := by omega
       rw [if_neg (by omega)] at hU
       obtain ⟨hk, hk2, hk3, hk4, hk5⟩ := hok hT0
       refine X_skip (X_seq (X_seq (X_reg ?_)))
       first | refine XR_a (op_field0 rfl rfl) rfl rfl ?_ | refine XR_a (op_fieldn rfl rfl) rfl rfl ?_
       refine XR_a (op_ld (st.cell 0 (i := 1) rfl rfl) rfl rfl rfl) rfl rfl ?_
       refine XV rfl rfl rfl ?_
       refine XR_a (op_neq rfl rfl) rfl rfl ?_
       refine XR_nil ?_
       refine X_if rfl (fun h => ?_) (fun h => ?_)
       ·rw [if_pos (by omega)] at hU
        subst hU
        refine X_seq (X_reg (XA rfl rfl rfl (XA rfl rfl rfl (XR_nil ?_))))
        refine X_ret (.cons (.tmp rfl) (.cons (.tmp rfl) .nil)) ?_
        exact ⟨none, 0, 0, rfl, rfl, Nat.le_refl _, Rd.nil _ _, st.low⟩
       ·rw [if_neg (by omega)] at hU
        refine X_skip (X_seq (X_seq (X_reg (XV rfl rfl rfl ?_))))
        refine XR_a (op_len rfl rfl rfl) rfl rfl ?_
        first | refine XR_a (op_field0 rfl rfl) rfl rfl ?_ | refine XR_a (op_fieldn rfl rfl) rfl rfl ?_
        refine XR_a (op_ld (st.cell 0 (i := 2) rfl rfl) rfl rfl rfl) rfl rfl ?_
        refine XR_a (op_subN (m := n9) (n := T.2.2.1) rfl rfl (by omega) (by simp only [inK]; omega)) rfl rfl ?_
        refine XR_a (op_gtr rfl rfl) rfl rfl ?_
        refine XV rfl rfl rfl ?_
        refine XR_if 48 rfl (fun h => ?_) (fun h => ?_)
        ·rw [if_pos (.inl (by omega))] at hU
         subst hU
         refine XR_no rfl rfl (XR_no rfl rfl (XR_no rfl rfl (XR_no rfl rfl (XR_no rfl rfl (XR_a (op_pick_t rfl rfl) rfl rfl (XR_nil (X_then rfl (X_seq (X_reg ?_)))))))))
         refine XA rfl rfl rfl (XA rfl rfl rfl (XR_nil ?_))
         refine X_ret (.cons (.tmp rfl) (.cons (.tmp rfl) .nil)) ?_
         exact ⟨none, 0, 0, rfl, rfl, Nat.le_refl _, Rd.nil _ _, st.low⟩
        ·refine XV rfl rfl rfl ?_
         first | refine XR_a (op_field0 rfl rfl) rfl rfl ?_ | refine XR_a (op_fieldn rfl rfl) rfl rfl ?_
         refine XR_a (op_ld (st.cell 0 (i := 2) rfl rfl) rfl rfl rfl) rfl rfl ?_
         refine XR_wa (opl_call (number_ref (k := 8) hr9 hl9 (by omega) (by omega)) rfl (by kernel_rfl)) rfl rfl rfl ?_
         rintro _ _ ⟨rfl, rfl⟩
         rw [show wd 32 8 = 8 from rfl]
         refine XR_a (op_neq rfl rfl) rfl rfl ?_
         refine XR_a (op_pick_f rfl rfl) rfl rfl (XR_nil ?_)
         refine X_if rfl (fun h => ?_) (fun h => ?_)
         ·rw [if_pos (.inr (by omega))] at hU
          subst hU
          refine X_seq (X_reg (XA rfl rfl rfl (XA rfl rfl rfl (XR_nil ?_))))
          refine X_ret (.cons (.tmp rfl) (.cons (.tmp rfl) .nil)) ?_
          exact ⟨none, 0, 0, rfl, rfl, Nat.le_refl _, Rd.nil _ _, st.low⟩
         ·rw [if_neg (by omega)] at hU
          subst hU
          refine X_skip (X_seq (X_reg ?_))
          first | refine XR_a (op_field0 rfl rfl) rfl rfl ?_ | refine XR_a (op_fieldn rfl rfl) rfl rfl ?_
          refine XR_a (op_ld (st.cell 0 (i := 0) rfl rfl) rfl rfl rfl) rfl rfl ?_
          obtain ⟨A7, n7, c7, rfl, hl7, _, _, hr7⟩ := st.row 1 rfl
          rw [flat_length _ 3 (fun _ => rfl)] at hl7
          refine XV rfl rfl rfl ?_
          refine XR_wa (opl_call (expand_ref (most := s) hr7 (show T.1.length = n7 by omega) (by omega) hk (by omega) (by omega)) rfl (by kernel_rfl)) rfl rfl rfl ?_
          rintro _ hp5 ⟨w5, rfl, st5⟩
          obtain ⟨A5, n5, c5, rfl, hl5, hn5, _, hr5⟩ := st5.row 0 rfl
          rw [List.length_map, Nat.mul_one] at hl5
          refine XR_a (op_extract rfl rfl) rfl rfl (XR_a (op_extract rfl rfl) rfl rfl (XA rfl rfl rfl (XA rfl rfl rfl (XR_nil ?_))))
          refine X_ret (.cons (.tmp rfl) (.cons (.tmp rfl) .nil)) ?_
          exact ⟨_, _, _, rfl, hl5, hn5, hr5, Ext.trans st.low st5.low⟩
     ·rw [if_neg h] at hU
      refine X_skip (X_seq (X_seq (X_reg (XV rfl rfl rfl ?_))))
      refine XR_a (op_eql rfl rfl) rfl rfl ?_
      refine XR_nil ?_
      refine X_if rfl (fun h => ?_) (fun h => ?_)
      ·rw [if_pos (by omega)] at hU
       refine X_seq (X_reg (XV rfl rfl rfl ?_))
       refine XR_wa (opl_call (pieces_ref hr hl (by omega) hmc) rfl (by kernel_rfl)) rfl rfl rfl ?_
       rintro _ hp3 ⟨w3, rfl, st3⟩
       replace st := st.join st3
       simp only [List.cons_append, List.nil_append] at st
       clear st3
       obtain ⟨A8, n8, c8, rfl, hl8, hn8, _, hr8⟩ := st.row 0 rfl
       rw [List.length_map, Nat.mul_one] at hl8
       refine XV rfl rfl rfl (XR_a (op_extract rfl rfl) rfl rfl (XR_a (op_extract rfl rfl) rfl rfl (XA rfl rfl rfl (XA rfl rfl rfl (XR_nil (X_seq (X_seq (X_reg (XV rfl rfl rfl ?_)))))))))
       refine XR_a (op_neq rfl rfl) rfl rfl ?_
       refine XR_nil ?_
       refine X_if rfl (fun h => ?_) (fun h => ?_)
       ·rw [if_pos (by omega)] at hU
        subst hU
        refine X_seq (X_reg (XV rfl rfl rfl (XA rfl rfl rfl (XA rfl rfl rfl (XR_nil ?_)))))
        refine X_ret (.cons (.tmp rfl) (.cons (.tmp rfl) .nil)) ?_
        exact ⟨none, 0, 0, by rw [show (pieces l).2 = (((pieces l).2.toNat : Nat) : Int) by omega]; rfl, rfl, Nat.le_refl _, Rd.nil _ _, st.low⟩
       ·rw [if_neg (by omega)] at hU
        refine X_skip (X_reg (XV rfl rfl rfl (XA rfl rfl rfl (XR_nil (X_seq (X_seq (X_reg (XV rfl rfl rfl ?_))))))))
        refine XR_a (op_len rfl rfl rfl) rfl rfl ?_
        refine XV rfl rfl rfl ?_
        refine XR_a (op_neq rfl rfl) rfl rfl ?_
        refine XR_nil ?_
        refine X_if rfl (fun h => ?_) (fun h => ?_)
        ·rw [if_pos (by omega)] at hU
         subst hU
         refine X_seq (X_reg (XA rfl rfl rfl (XA rfl rfl rfl (XR_nil ?_))))
         refine X_ret (.cons (.tmp rfl) (.cons (.tmp rfl) .nil)) ?_
         exact ⟨none, 0, 0, rfl, rfl, Nat.le_refl _, Rd.nil _ _, st.low⟩
        ·rw [if_neg (by omega)] at hU
         subst hU
         refine X_skip (X_seq (X_reg (XV rfl rfl rfl (XA rfl rfl rfl (XA rfl rfl rfl (XR_nil ?_))))))
         refine X_ret (.cons (.tmp rfl) (.cons (.tmp rfl) .nil)) ?_
         exact ⟨_, _, _, rfl, hl8, hn8, hr8, st.low⟩
      ·rw [if_neg (by omega)] at hU
       refine X_skip (X_seq (X_seq (X_reg (XV rfl rfl rfl ?_))))
       refine XR_a (op_len rfl rfl rfl) rfl rfl ?_
       refine XV rfl rfl rfl ?_
       refine XR_a (op_neq rfl rfl) rfl rfl ?_
       refine XR_nil ?_
       refine X_if rfl (fun h => ?_) (fun h => ?_)
       ·rw [if_pos (by omega)] at hU
        subst hU
        refine X_seq (X_reg (XA rfl rfl rfl (XA rfl rfl rfl (XR_nil ?_))))
        refine X_ret (.cons (.tmp rfl) (.cons (.tmp rfl) .nil)) ?_
        exact ⟨none, 0, 0, rfl, rfl, Nat.le_refl _, Rd.nil _ _, st.low⟩
       ·rw [if_neg (by omega)] at hU
        subst hU
        refine X_skip (X_seq (X_reg (XV rfl rfl rfl (XA rfl rfl rfl (XA rfl rfl rfl (XR_nil ?_))))))
        refine X_ret (.cons (.tmp rfl) (.cons (.tmp rfl) .nil)) ?_
        exact ⟨_, _, _, rfl, hl, hmc, hr.ext st.low, st.low⟩
end Go.Bn
end

section
set_option linter.unusedVariables false
set_option linter.unusedSimpArgs false
set_option maxHeartbeats 4000000
set_option maxRecDepth 20000
namespace Go.Bn
open Go Proofs
theorem blockB_ge (ys : List Sy) : 9 ≤ (blockB ys).length := by
 unfold blockB putR putHead
 simp only [List.length_append, bitsN_length]
 omega
theorem packP_one : packP [7] 3 = (0, [7]) := by
 unfold packP
 rw [if_neg]
 rintro ⟨_, h⟩
 have := blockB_ge ((splitL [7] 3).map splitY)
 rw [pack_length, List.length_singleton] at h
 omega
theorem lives14 (h0 : Heap) : Ret Tryz.prog 23 [] h0 fun v h' => v = .bool true ∧ Ext h0 h' := by
 refine ret_of_X Tryz.func23 rfl rfl fun w0 hw0 => ?_
 simp only [argE, Nat.zero_add, Nat.reduceAdd]
 have st := St.start h0
 refine X_seq (X_reg (XA rfl rfl rfl (XR_nil (X_seq (X_reg ?_)))))
 refine XR_wa (opl_lits [.int .u8 7] rfl rfl rfl rfl (by kernel_rfl) rfl) rfl rfl rfl ?_
 rintro v2 hp hnew
 replace st := st.new hnew
 obtain ⟨A5, n5, c5, rfl, hl5, _, _, hr5⟩ := st.row 0 rfl
 obtain rfl : n5 = 1 := by simpa using hl5.symm
 have hr5 : Rd hp A5 (([7] : List UInt8).map byteV) := hr5
 refine XR_wa (opl_call (cpack_spec (b := [7]) (lv := 3) hr5 rfl (by decide)) rfl (by kernel_rfl)) rfl rfl rfl ?_
 rintro _ hp2 ⟨w, rfl, st2⟩
 rw [packP_one] at st2 ⊢
 obtain ⟨A6, n6, c6, rfl, hl6, _, _, hr6⟩ := st2.row 0 rfl
 obtain rfl : n6 = 1 := by simpa using hl6.symm
 refine XV rfl rfl rfl (XR_a (op_extract rfl rfl) rfl rfl (XR_a (op_extract rfl rfl) rfl rfl (XR_a (op_extract rfl rfl) rfl rfl (XA rfl rfl rfl (XA rfl rfl rfl (XA rfl rfl rfl (XR_nil (X_seq (X_reg ?_)))))))))
 refine XV rfl rfl rfl ?_
 refine XR_a (op_eql rfl rfl) rfl rfl ?_
 refine XR_as (.bool true) (congrArg Value.bool (decide_eq_true rfl)) ?_
 refine XV rfl rfl rfl (XV rfl rfl rfl ?_)
 refine XR_a (op_str (l := [7]) hr6 rfl rfl rfl rfl rfl) rfl rfl ?_
 refine XR_a (op_eqlS rfl rfl) rfl rfl ?_
 refine XR_as (.bool true) rfl ?_
 refine XR_a (op_pick_t rfl rfl) rfl rfl (XV rfl rfl rfl (XV rfl rfl rfl ?_))
 refine XR_a (op_eql rfl rfl) rfl rfl ?_
 refine XR_as (.bool true) (congrArg Value.bool (decide_eq_true rfl)) ?_
 refine XR_a (op_pick_t rfl rfl) rfl rfl (XA rfl rfl rfl (XR_nil ?_))
 refine X_ret (.cons (.tmp rfl) .nil) ?_
 exact ⟨rfl, Ext.trans st.low st2.low⟩
theorem codecUnpacks_ret {m c : Nat} {mt size : Int} {A : Option Addr} {l : List UInt8} {h0 : Heap} (hr : Rd h0 A (l.map byteV)) (hl : l.length = m) (hmc : m ≤ c) :
  Ret Tryz.prog 5 [.int .i64 mt, .slice A m c, .int .i64 size] h0 fun v h' => v = .bool true ∧ Ext h0 h' := by
 refine ret_of_X Tryz.func5 rfl rfl fun w0 hw0 => ?_
 simp only [argE, Nat.zero_add, Nat.reduceAdd]
 refine X_seq (X_reg (XA rfl rfl rfl (XR_nil (X_seq (X_seq (X_reg (XV rfl rfl rfl ?_)))))))
 refine XR_a (op_len rfl rfl rfl) rfl rfl ?_
 refine XR_a (op_gtr rfl rfl) rfl rfl ?_
 refine XR_nil ?_
 refine X_if rfl (fun h => ?_) (fun h => ?_)
 ·refine X_seq (X_reg ?_)
  refine XR_wa (opl_call (lives14 _) rfl (by kernel_rfl)) rfl rfl rfl ?_
  rintro _ hp ⟨rfl, hx⟩
  refine XA rfl rfl rfl (XR_nil ?_)
  refine X_ret (.cons (.tmp rfl) .nil) ?_
  exact ⟨rfl, hx⟩
 ·refine X_skip (X_seq (X_reg (XV rfl rfl rfl (XV rfl rfl rfl (XV rfl rfl rfl ?_)))))
  refine XR_wa (opl_call (cunpack_spec hr hl (by omega) hmc) rfl (by kernel_rfl)) rfl rfl rfl ?_
  rintro _ hp2 ⟨w2, rfl, st⟩
  refine XV rfl rfl rfl (XR_a (op_extract rfl rfl) rfl rfl (XR_a (op_extract rfl rfl) rfl rfl (XA rfl rfl rfl (XA rfl rfl rfl (XR_nil (X_seq (X_reg (XV rfl rfl rfl (XV rfl rfl rfl ?_)))))))))
  refine XV rfl rfl rfl ?_
  refine XR_wa (opl_call (unpack14_ref (hr.ext st.low) hl (by omega) hmc) rfl (by kernel_rfl)) rfl rfl rfl ?_
  rintro _ hp3 ⟨A3, n3, c3, rfl, hl3, hc3, hr3, hx3⟩
  replace st := st.ext hx3
  obtain ⟨A2, n2, c2, rfl, hl2, _, _, hr2⟩ := st.row 0 rfl
  rw [List.length_map, Nat.mul_one] at hl2
  refine XV rfl rfl rfl (XR_a (op_extract rfl rfl) rfl rfl (XR_a (op_extract rfl rfl) rfl rfl (XA rfl rfl rfl (XA rfl rfl rfl (XR_nil (X_seq (X_reg (XV rfl rfl rfl ?_))))))))
  refine XR_a (op_str hr2 rfl hl2 rfl rfl rfl) rfl rfl ?_
  refine XV rfl rfl rfl ?_
  refine XR_a (op_str hr3 rfl hl3 rfl rfl rfl) rfl rfl ?_
  refine XR_a (op_eqlS rfl rfl) rfl rfl ?_
  refine XR_as (.bool true) (congrArg Value.bool (decide_eq_true rfl)) ?_
  refine XV rfl rfl rfl (XV rfl rfl rfl (XV rfl rfl rfl ?_))
  refine XR_a (op_eql rfl rfl) rfl rfl ?_
  refine XR_as (.bool true) (congrArg Value.bool (decide_eq_true rfl)) ?_
  refine XR_a (op_pick_t rfl rfl) rfl rfl (XV rfl rfl rfl ?_)
  refine XR_wa (opl_call (lives14 _) rfl (by kernel_rfl)) rfl rfl rfl ?_
  rintro _ hp4 ⟨rfl, hx4⟩
  refine XR_a (op_pick_t rfl rfl) rfl rfl (XA rfl rfl rfl (XR_nil ?_))
  refine X_ret (.cons (.tmp rfl) .nil) ?_
  exact ⟨rfl, Ext.trans st.low hx4⟩
theorem cmost_spec (x : Nat) (h0 : Heap) : Ret Tryz.prog 27 [nV x] h0 fun v h' => v = nV x ∧ h0 = h' := by
 refine ret_of_X Tryz.func27 rfl rfl fun w0 hw0 => ?_
 simp only [argE, Nat.zero_add, Nat.reduceAdd]
 refine X_seq (X_reg (XA rfl rfl rfl (XR_nil (X_seq (X_reg (XV rfl rfl rfl ?_))))))
 refine XR_a (op_max2 rfl rfl) rfl rfl ?_
 refine XR_as (nV x) (congrArg (Value.int .i64) (by omega)) ?_
 refine XA rfl rfl rfl (XR_nil ?_)
 refine X_ret (.cons (.tmp rfl) .nil) ?_
 exact ⟨rfl, rfl⟩
theorem codecBack_ret {m c : Nat} {lv o : Int} {A : Option Addr} {l : List UInt8} {h0 : Heap} (hr : Rd h0 A (l.map byteV)) (hl : l.length = m) :
  Ret Tryz.prog 6 [.slice A m c, .int .i64 lv, .int .i64 o] h0 fun v h' => v = .bool true ∧ Ext h0 h' := by
 refine ret_of_X Tryz.func6 rfl rfl fun w0 hw0 => ?_
 simp only [argE, Nat.zero_add, Nat.reduceAdd]
 refine X_seq (X_reg (XA rfl rfl rfl (XR_nil (X_seq (X_seq (X_reg (XV rfl rfl rfl ?_)))))))
 refine XR_a (op_len rfl rfl rfl) rfl rfl ?_
 refine XR_a (op_gtr rfl rfl) rfl rfl ?_
 refine XR_nil ?_
 refine X_if rfl (fun h => ?_) (fun h => ?_)
 ·refine X_seq (X_reg ?_)
  refine XR_wa (opl_call (lives14 _) rfl (by kernel_rfl)) rfl rfl rfl ?_
  rintro _ hp ⟨rfl, hx⟩
  refine XA rfl rfl rfl (XR_nil ?_)
  refine X_ret (.cons (.tmp rfl) .nil) ?_
  exact ⟨rfl, hx⟩
 ·refine X_skip (X_seq (X_reg (XV rfl rfl rfl (XV rfl rfl rfl ?_))))
  refine XR_wa (opl_call (cpack_spec (lv := lv) hr hl (by omega)) rfl (by kernel_rfl)) rfl rfl rfl ?_
  rintro _ hp2 ⟨w2, rfl, st⟩
  obtain ⟨hb1, hb2⟩ := pack_back (b := l) lv (by omega)
  have hpl := packP_len (b := l) lv
  obtain ⟨K, hK⟩ : ∃ K, packP l lv = K := ⟨_, rfl⟩
  rw [hK] at st hb1 hb2 hpl ⊢
  rw [hl] at hb1 hb2
  obtain ⟨A2, n2, c2, rfl, hl2, hn2, _, hr2⟩ := st.row 0 rfl
  rw [List.length_map, Nat.mul_one] at hl2
  refine XV rfl rfl rfl (XR_a (op_extract rfl rfl) rfl rfl (XR_a (op_extract rfl rfl) rfl rfl (XR_a (op_extract rfl rfl) rfl rfl (XA rfl rfl rfl (XA rfl rfl rfl (XA rfl rfl rfl (XR_nil (X_seq (X_reg ?_)))))))))
  refine XV rfl rfl rfl (XV rfl rfl rfl (XV rfl rfl rfl ?_))
  refine XR_a (op_len rfl rfl rfl) rfl rfl ?_
  refine XR_wa (opl_call (cunpack_spec (mt := (K.1 : Int)) (size := (m : Int)) hr2 hl2 (by omega) hn2) rfl (by kernel_rfl)) rfl rfl rfl ?_
  rintro _ hp3 ⟨w3, rfl, st3⟩
  rw [hb1] at st3 ⊢
  replace st := st.join st3
  simp only [List.cons_append, List.nil_append] at st
  clear st3
  obtain ⟨A3, n3, c3, rfl, hl3, _, _, hr3⟩ := st.row 0 rfl
  rw [List.length_map, Nat.mul_one] at hl3
  refine XV rfl rfl rfl (XR_a (op_extract rfl rfl) rfl rfl (XR_a (op_extract rfl rfl) rfl rfl (XA rfl rfl rfl (XA rfl rfl rfl (XR_nil (X_seq (X_seq (X_reg (XV rfl rfl rfl ?_)))))))))
  refine XR_a (op_neq rfl rfl) rfl rfl ?_
  refine XR_as (.bool false) (congrArg Value.bool (decide_eq_false (fun hh => hh rfl))) ?_
  refine XV rfl rfl rfl (XV rfl rfl rfl ?_)
  refine XR_a (op_neq rfl rfl) rfl rfl ?_
  refine XR_as (.bool false) (congrArg Value.bool (decide_eq_false (fun hh => hh rfl))) ?_
  refine XR_a (op_pick_f rfl rfl) rfl rfl (XV rfl rfl rfl (XV rfl rfl rfl ?_))
  refine XR_a (op_str hr3 rfl hl3 rfl rfl rfl) rfl rfl ?_
  refine XV rfl rfl rfl ?_
  refine XR_a (op_str (hr.ext st.low) rfl hl rfl rfl rfl) rfl rfl ?_
  refine XR_a (op_neqS rfl rfl) rfl rfl ?_
  refine XR_as (.bool false) (congrArg Value.bool (decide_eq_false (fun hh => hh rfl))) ?_
  refine XR_a (op_pick_f rfl rfl) rfl rfl (XV rfl rfl rfl (XV rfl rfl rfl ?_))
  refine XR_a (op_len rfl rfl rfl) rfl rfl ?_
  refine XV rfl rfl rfl ?_
  refine XR_a (op_len rfl rfl rfl) rfl rfl ?_
  refine XR_a (op_gtr rfl rfl) rfl rfl ?_
  refine XR_as (.bool false) (congrArg Value.bool (decide_eq_false (by omega))) ?_
  refine XR_a (op_pick_f rfl rfl) rfl rfl (XV rfl rfl rfl (XV rfl rfl rfl ?_))
  refine XR_a (op_len rfl rfl rfl) rfl rfl ?_
  refine XV rfl rfl rfl ?_
  refine XR_a (op_len rfl rfl rfl) rfl rfl ?_
  refine XR_wa (opl_call (cmost_spec _ _) rfl (by kernel_rfl)) rfl rfl rfl ?_
  rintro _ _ ⟨rfl, rfl⟩
  refine XR_a (op_gtr rfl rfl) rfl rfl ?_
  refine XR_as (.bool false) (congrArg Value.bool (decide_eq_false (by omega))) ?_
  refine XR_a (op_pick_f rfl rfl) rfl rfl (XR_nil (X_else rfl (X_skip (X_seq (X_reg (XV rfl rfl rfl (XV rfl rfl rfl (XV rfl rfl rfl ?_))))))))
  refine XR_wa (opl_call (cunpack_spec (mt := (K.1 : Int)) (size := o) (st.rdS 1 rfl).2 hl2 (by omega) hn2) rfl (by kernel_rfl)) rfl rfl rfl ?_
  rintro _ hp5 ⟨w5, rfl, st5⟩
  have ho := hb2 o
  obtain ⟨U, hU⟩ : ∃ U, unpackU (K.1 : Int) K.2 o = U := ⟨_, rfl⟩
  rw [hU] at ho st5 ⊢
  refine XV rfl rfl rfl (XR_a (op_extract rfl rfl) rfl rfl (XR_a (op_extract rfl rfl) rfl rfl (XA rfl rfl rfl (XA rfl rfl rfl (XR_nil (X_seq (X_reg (XV rfl rfl rfl ?_))))))))
  refine XR_a (op_eql rfl rfl) rfl rfl ?_
  refine XV rfl rfl rfl (XV rfl rfl rfl ?_)
  refine XR_a (op_len rfl rfl rfl) rfl rfl ?_
  refine XR_a (op_eql rfl rfl) rfl rfl ?_
  refine XR_a (op_eqlB rfl rfl rfl) rfl rfl ?_
  refine XR_as (.bool true) (congrArg Value.bool (decide_eq_true (decide_eq_decide.2 ⟨fun hh => ho.1 (by omega), fun hh => by have := ho.2 hh; omega⟩))) ?_
  refine XV rfl rfl rfl ?_
  refine XR_wa (opl_call (lives14 _) rfl (by kernel_rfl)) rfl rfl rfl ?_
  rintro _ hp6 ⟨rfl, hx6⟩
  refine XR_a (op_pick_t rfl rfl) rfl rfl (XA rfl rfl rfl (XR_nil ?_))
  refine X_ret (.cons (.tmp rfl) .nil) ?_
  exact ⟨rfl, Ext.trans st.low (Ext.trans st5.low hx6)⟩
end Go.Bn
end
