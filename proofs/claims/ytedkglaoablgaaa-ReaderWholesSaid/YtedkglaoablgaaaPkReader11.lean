/- Packed texts of a claim: what its theorem uses, joined. -/
import Derived.Test.YtedkglaoablgaaaPkReader10
section
set_option linter.unusedVariables false
set_option linter.unusedSimpArgs false
set_option maxHeartbeats 4000000
set_option maxRecDepth 20000
namespace Go.Bn
open Go Proofs
@[reducible] def kC (A V : Option Addr) (n c d fr : Nat) : List Value := [.slice A n c, .slice V n d, nV fr]
theorem kC_one {A V : Option Addr} {n c d fr : Nat} : ∀ u ∈ kC A V n c d fr, Value.one u = true := by
  intro u hu
  simp only [kC, List.mem_cons, List.not_mem_nil, or_false] at hu
  rcases hu with rfl | rfl | rfl <;> rfl
theorem sym_ref {n c d m c3 a fr : Nat} {A V A3 : Option Addr} {ls : List Nat} {rb : List Bool} {h0 : Heap} (hr : Rd h0 A (ls.map nV)) (hl : ls.length = n) (hs : Rd h0 V ((vals ls).map nV)) (hok : lensOK ls)
    (hrb : Rd h0 A3 ((b01 rb).map byteV)) (hlb : rb.length = m) (hm : m ≤ 1048576) (hmc : m ≤ c3) (ha : a ≤ m) (hfr : ls.length ≤ fr + 30) (hfr2 : fr ≤ 300) :
    Ret Try.prog 104 [.agg (kC A V n c d fr).toArray, .slice A3 m c3, nV a] h0
      fun v h' => v = retVal [.agg (clsV (clsT ls fr rb a).1).toArray, nV (clsT ls fr rb a).2.1, nV (clsT ls fr rb a).2.2] ∧ Ext h0 h' := by
  have hsm := takeC_small hok (rb.drop a)
  have hle := takeC_le ls (rb.drop a)
  have hsy := takeC_sym hok (bs := rb.drop a)
  have hSC := takeC_S hok (rb.drop a)
  rw [List.length_drop, hlb] at hle
  obtain ⟨T, hT⟩ : ∃ T, takeC ls (rb.drop a) = T := ⟨_, rfl⟩
  rw [hT] at hsm hle hsy hSC
  obtain ⟨C, hCe⟩ : ∃ C, clsT ls fr rb a = C := ⟨_, rfl⟩
  rw [show clsT ls fr rb a = C from hCe]
  unfold clsT at hCe
  rw [hT, hlb] at hCe
  have hok2 := hok.2.1
  refine ret_of_X Try.func104 rfl rfl fun w0 hw0 => ?_
  simp only [argE, Nat.zero_add, Nat.reduceAdd]
  have st := St.start h0
  refine X_seq ?_
  refine X_reg ?_
  refine XR_wa (opl_bx (cs := kC A V n c d fr) rfl rfl) rfl rfl rfl ?_
  rintro _ hp ⟨p3, rfl, hnew⟩
  replace st := st.new hnew
  refine XR_wa (opl_new rfl) rfl rfl rfl ?_
  rintro _ hp ⟨p6, rfl, hnew⟩
  replace st := st.new hnew
  refine XR_a (op_assign rfl) rfl rfl ?_
  refine XR_a (op_assign rfl) rfl rfl ?_
  refine XR_nil ?_
  refine X_seq ?_
  refine X_reg ?_
  first | refine XR_a (op_field0 rfl rfl) rfl rfl ?_ | refine XR_a (op_fieldn rfl rfl) rfl rfl ?_
  refine XR_a (op_ld (st.cell 1 (i := 0) rfl rfl) rfl rfl rfl) rfl rfl ?_
  first | refine XR_a (op_field0 rfl rfl) rfl rfl ?_ | refine XR_a (op_fieldn rfl rfl) rfl rfl ?_
  refine XR_a (op_ld (st.cell 1 (i := 1) rfl rfl) rfl rfl rfl) rfl rfl ?_
  refine XR_a (op_move rfl) rfl rfl ?_
  refine XR_a (op_move rfl) rfl rfl ?_
  refine XR_wa (opl_call (take08_ref (hr.ext st.low) hl (hs.ext st.low) hok (hrb.ext st.low) hlb hm hmc ha) rfl (by kernel_rfl)) rfl rfl rfl ?_
  rintro _ hp ⟨rfl, hx5⟩
  replace st := st.ext hx5
  rw [← hSC]
  refine XR_a (op_move rfl) rfl rfl ?_
  refine XR_a (op_extract rfl rfl) rfl rfl ?_
  refine XR_a (op_extract rfl rfl) rfl rfl ?_
  refine XR_a (op_extract rfl rfl) rfl rfl ?_
  refine XR_a (op_assign rfl) rfl rfl ?_
  refine XR_a (op_assign rfl) rfl rfl ?_
  refine XR_a (op_assign rfl) rfl rfl ?_
  refine XR_nil ?_
  refine X_seq ?_
  refine X_reg ?_
  refine XR_a (op_move rfl) rfl rfl ?_
  refine XR_a (op_move rfl) rfl rfl ?_
  first | refine XR_a (op_addN rfl rfl (by simp only [inK]; omega)) rfl rfl ?_ | refine XR_a (op_addI rfl rfl (by simp only [inK]; omega)) rfl rfl ?_ | refine XR_a (op_add rfl rfl) rfl rfl ?_
  refine XR_a (op_assign rfl) rfl rfl ?_
  refine XR_nil ?_
  refine X_seq ?_
  refine X_seq ?_
  refine X_reg ?_
  refine XR_a (op_move rfl) rfl rfl ?_
  refine XR_a (op_neq rfl rfl) rfl rfl ?_
  refine XR_a (op_move rfl) rfl rfl ?_
  refine XR_if 29 rfl (fun h => ?_) (fun h => ?_)
  · rw [if_pos (by omega)] at hCe
    subst hCe
    refine XR_no rfl rfl ?_
    refine XR_no rfl rfl ?_
    refine XR_no rfl rfl ?_
    refine XR_no rfl rfl ?_
    refine XR_a (op_pick_t rfl rfl) rfl rfl ?_
    refine XR_nil ?_
    refine X_then rfl ?_
    refine X_seq ?_
    refine X_reg ?_
    refine XR_a (op_move rfl) rfl rfl ?_
    refine XR_a (op_build (ps := [(0, nV T.1)]) (cs := (clsV ⟨T.1, 0, 0⟩).toArray) rfl rfl) rfl rfl ?_
    refine XR_a (op_move rfl) rfl rfl ?_
    refine XR_a (op_move rfl) rfl rfl ?_
    refine XR_wn (opl_store_whole (us := clsV ⟨T.1, 0, 0⟩) st 0 rfl rfl rfl rfl rfl (clsV_one _) rfl) rfl rfl fun _ hp st => ?_
    simp only [List.set_cons_zero, List.set_cons_succ] at st
    refine XR_a (op_assign rfl) rfl rfl ?_
    refine XR_a (op_assign rfl) rfl rfl ?_
    refine XR_nil ?_
    refine X_ret (.cons (RV_agg (vs := clsV _) rfl rfl rfl (st.cells 0 rfl)) (.cons (.tmp rfl) (.cons (.tmp rfl) .nil))) ?_
    exact ⟨rfl, st.low⟩
  · refine XR_a (op_move rfl) rfl rfl ?_
    first | refine XR_a (op_field0 rfl rfl) rfl rfl ?_ | refine XR_a (op_fieldn rfl rfl) rfl rfl ?_
    refine XR_a (op_ld (st.cell 1 (i := 2) rfl rfl) rfl rfl rfl) rfl rfl ?_
    refine XR_a (op_lss rfl rfl) rfl rfl ?_
    refine XR_a (op_pick_f rfl rfl) rfl rfl ?_
    refine XR_nil ?_
    refine X_if rfl (fun h => ?_) (fun h => ?_)
    · rw [if_pos (by omega)] at hCe
      subst hCe
      refine X_seq ?_
      refine X_reg ?_
      refine XR_a (op_move rfl) rfl rfl ?_
      refine XR_a (op_build (ps := [(0, nV T.1)]) (cs := (clsV ⟨T.1, 0, 0⟩).toArray) rfl rfl) rfl rfl ?_
      refine XR_a (op_move rfl) rfl rfl ?_
      refine XR_a (op_move rfl) rfl rfl ?_
      refine XR_wn (opl_store_whole (us := clsV ⟨T.1, 0, 0⟩) st 0 rfl rfl rfl rfl rfl (clsV_one _) rfl) rfl rfl fun _ hp st => ?_
      simp only [List.set_cons_zero, List.set_cons_succ] at st
      refine XR_a (op_assign rfl) rfl rfl ?_
      refine XR_a (op_assign rfl) rfl rfl ?_
      refine XR_nil ?_
      refine X_ret (.cons (RV_agg (vs := clsV _) rfl rfl rfl (st.cells 0 rfl)) (.cons (.tmp rfl) (.cons (.tmp rfl) .nil))) ?_
      exact ⟨rfl, st.low⟩
    · have hT0 : T.2.2 = 0 := by omega
      have hTl : T.1 < ls.length := (hsy hT0).1
      have hbc : bitsC (T.1 - fr) ≤ 13 := by unfold bitsC; split <;> omega
      rw [if_neg (by omega)] at hCe
      have hwd : wd 32 ((bitsC (T.1 - fr) : Nat) : Int) = bitsC (T.1 - fr) := wd_nat (by omega)
      refine X_skip ?_
      refine X_seq ?_
      refine X_reg ?_
      refine XR_a (op_move rfl) rfl rfl ?_
      first | refine XR_a (op_field0 rfl rfl) rfl rfl ?_ | refine XR_a (op_fieldn rfl rfl) rfl rfl ?_
      refine XR_a (op_ld (st.cell 1 (i := 2) rfl rfl) rfl rfl rfl) rfl rfl ?_
      first | refine XR_a (op_subN rfl rfl (by omega) (by simp only [inK]; omega)) rfl rfl ?_ | refine XR_a (op_subI rfl rfl (by simp only [inK]; omega)) rfl rfl ?_ | refine XR_a (op_sub rfl rfl) rfl rfl ?_
      refine XR_wa (opl_call (bits_ref (v := ((T.1 - fr : Nat) : Int)) (by omega) _) rfl (by kernel_rfl)) rfl rfl rfl ?_
      rintro _ _ ⟨rfl, rfl⟩
      rw [Int.toNat_natCast]
      refine XR_a (op_assign rfl) rfl rfl ?_
      refine XR_nil ?_
      refine X_seq ?_
      refine X_seq ?_
      refine X_reg ?_
      refine XR_a (op_move rfl) rfl rfl ?_
      refine XR_a (op_move rfl) rfl rfl ?_
      refine XR_a (op_len rfl rfl rfl) rfl rfl ?_
      refine XR_a (op_move rfl) rfl rfl ?_
      first | refine XR_a (op_subN rfl rfl (by omega) (by simp only [inK]; omega)) rfl rfl ?_ | refine XR_a (op_subI rfl rfl (by simp only [inK]; omega)) rfl rfl ?_ | refine XR_a (op_sub rfl rfl) rfl rfl ?_
      refine XR_a (op_gtr rfl rfl) rfl rfl ?_
      refine XR_nil ?_
      refine X_if rfl (fun h => ?_) (fun h => ?_)
      · rw [if_pos (by omega)] at hCe
        subst hCe
        refine X_seq ?_
        refine X_reg ?_
        refine XR_a (op_build (ps := []) (cs := (clsV Kls.nil).toArray) rfl rfl) rfl rfl ?_
        refine XR_a (op_move rfl) rfl rfl ?_
        refine XR_wn (opl_store_whole (us := clsV Kls.nil) st 0 rfl rfl rfl rfl rfl (clsV_one _) rfl) rfl rfl fun _ hp st => ?_
        simp only [List.set_cons_zero, List.set_cons_succ] at st
        refine XR_a (op_assign rfl) rfl rfl ?_
        refine XR_a (op_assign rfl) rfl rfl ?_
        refine XR_nil ?_
        refine X_ret (.cons (RV_agg (vs := clsV _) rfl rfl rfl (st.cells 0 rfl)) (.cons (.tmp rfl) (.cons (.tmp rfl) .nil))) ?_
        exact ⟨rfl, st.low⟩
      · rw [if_neg (by omega)] at hCe
        subst hCe
        have hnl := numB_lt rb (a + T.2.1) (bitsC (T.1 - fr))
        refine X_skip ?_
        refine X_seq ?_
        refine X_reg ?_
        refine XR_a (op_move rfl) rfl rfl ?_
        refine XR_a (op_move rfl) rfl rfl ?_
        refine XR_a (op_move rfl) rfl rfl ?_
        refine XR_a (op_move rfl) rfl rfl ?_
        refine XR_a (op_move rfl) rfl rfl ?_
        refine XR_wa (opl_call (number_ref (k := ((bitsC (T.1 - fr) : Nat) : Int)) (hrb.ext st.low) hlb (by omega) (by omega)) rfl (by kernel_rfl)) rfl rfl rfl ?_
        rintro _ _ ⟨rfl, rfl⟩
        rw [hwd]
        refine XR_a (op_build (ps := [(0, nV T.1), (1, nV (bitsC (T.1 - fr))), (2, .int .u32 ((numB rb (a + T.2.1) (bitsC (T.1 - fr)) : Nat) : Int))]) (cs := (clsV ⟨T.1, bitsC (T.1 - fr), (numB rb (a + T.2.1) (bitsC (T.1 - fr)) : Nat)⟩).toArray) rfl rfl) rfl rfl ?_
        refine XR_a (op_move rfl) rfl rfl ?_
        refine XR_a (op_move rfl) rfl rfl ?_
        first | refine XR_a (op_addN rfl rfl (by simp only [inK]; omega)) rfl rfl ?_ | refine XR_a (op_addI rfl rfl (by simp only [inK]; omega)) rfl rfl ?_ | refine XR_a (op_add rfl rfl) rfl rfl ?_
        refine XR_wn (opl_store_whole (us := clsV ⟨T.1, bitsC (T.1 - fr), (numB rb (a + T.2.1) (bitsC (T.1 - fr)) : Nat)⟩) st 0 rfl rfl rfl rfl rfl (clsV_one _) rfl) rfl rfl fun _ hp st => ?_
        simp only [List.set_cons_zero, List.set_cons_succ] at st
        refine XR_a (op_assign rfl) rfl rfl ?_
        refine XR_a (op_assign rfl) rfl rfl ?_
        refine XR_nil ?_
        refine X_ret (.cons (RV_agg (vs := clsV _) rfl rfl rfl (st.cells 0 rfl)) (.cons (.tmp rfl) (.cons (.tmp rfl) .nil))) ?_
        exact ⟨rfl, st.low⟩
theorem tables_ref {m c : Nat} {A : Option Addr} {bs : List Bool} {h0 : Heap} (hr : Rd h0 A ((b01 bs).map byteV)) (hl : bs.length = m) (hm : m ≤ 1048576) (hmc : m ≤ c) :
    Ret Try.prog 74 [.slice A m c] h0 fun v h' => ∃ k1 k2 x, v = retVal [.agg (List.toArray k1), .agg (List.toArray k2), nV x, nV (codesT bs 0).1] ∧ (k1.length = 3 ∧ k2.length = 3 ∧ (∀ u ∈ k1, Value.one u = true) ∧ ∀ u ∈ k2, Value.one u = true) ∧ Ext h0 h' ∧
      ((codesT bs 0).1 = 0 → x = (codesT bs 0).2.2.2 ∧ x ≤ m ∧ ∃ A1 V1 c1 d1 A2 V2 c2 d2, k1 = kC A1 V1 273 c1 d1 257 ∧ k2 = kC A2 V2 30 c2 d2 0 ∧
        St h0.size h0 h' [row 3 1 (.slice A1 273 c1) ((codesT bs 0).2.1.map nV), row 3 1 (.slice V1 273 d1) ((vals (codesT bs 0).2.1).map nV), row 3 1 (.slice A2 30 c2) ((codesT bs 0).2.2.1.map nV), row 3 1 (.slice V2 30 d2) ((vals (codesT bs 0).2.2.1).map nV)]) := by
  obtain ⟨N, hN⟩ : ∃ N, codesT bs 0 = N := ⟨_, rfl⟩
  have hok := codesT_ok (bs := bs) (a := 0)
  rw [hN] at hok ⊢
  unfold codesT at hN
  obtain ⟨X, hX⟩ : ∃ X, takeR bs 0 (okR bs 0) = X := ⟨_, rfl⟩
  rw [hX] at hN
  obtain ⟨Y, hY⟩ : ∃ Y, takeR bs X.2.1 (okR bs X.2.1) = Y := ⟨_, rfl⟩
  rw [hY] at hN
  have hcl : ∀ z : List Nat, (castI z).length = z.length := fun z => by unfold castI; rw [List.length_map]
  have hmn : ∀ z : List Nat, z.map nV = (castI z).map iV := fun z => by unfold castI; rw [List.map_map]; rfl
  have zk : ∀ {hp : Heap}, True := trivial
  refine ret_of_X Try.func74 rfl rfl fun w0 hw0 => ?_
  simp only [argE, Nat.zero_add, Nat.reduceAdd]
  have st := St.start h0
  refine X_seq ?_
  refine X_reg ?_
  refine XR_wa (opl_new rfl) rfl rfl rfl ?_
  rintro _ hp ⟨p2, rfl, hnew⟩
  replace st := st.new hnew
  refine XR_wa (opl_new rfl) rfl rfl rfl ?_
  rintro _ hp ⟨p3, rfl, hnew⟩
  replace st := st.new hnew
  replace st : St h0.size h0 hp [pt p3 134 (kC none none 0 0 0 0), pt p2 134 (kC none none 0 0 0 0)] := st
  refine XR_a (op_assign rfl) rfl rfl ?_
  refine XR_a (op_assign rfl) rfl rfl ?_
  refine XR_nil ?_
  refine X_seq ?_
  refine X_reg ?_
  refine XR_a (op_move rfl) rfl rfl ?_
  refine XR_wa (opl_call (take09_ref (a := 0) (hr.ext st.low) hl hm hmc (by omega)) rfl (by kernel_rfl)) rfl rfl rfl ?_
  rintro _ hp ⟨w1, x1, rfl, hat, st1⟩
  rw [hX] at hat st1 ⊢
  replace st := (st.join st1)
  simp only [List.cons_append, List.nil_append] at st
  clear st1
  obtain ⟨A1, n1, c1, rfl, hl1, _⟩ := st.row 0 rfl
  rw [List.length_map, Nat.mul_one] at hl1
  refine XR_a (op_move rfl) rfl rfl ?_
  refine XR_a (op_extract rfl rfl) rfl rfl ?_
  refine XR_a (op_extract rfl rfl) rfl rfl ?_
  refine XR_a (op_extract rfl rfl) rfl rfl ?_
  refine XR_a (op_assign rfl) rfl rfl ?_
  refine XR_a (op_assign rfl) rfl rfl ?_
  refine XR_a (op_assign rfl) rfl rfl ?_
  refine XR_nil ?_
  refine X_seq ?_
  refine X_seq ?_
  refine X_reg ?_
  refine XR_a (op_move rfl) rfl rfl ?_
  refine XR_a (op_neq rfl rfl) rfl rfl ?_
  refine XR_nil ?_
  refine X_if rfl (fun h => ?_) (fun h => ?_)
  · rw [if_pos (by omega)] at hN
    subst hN
    refine X_seq ?_
    refine X_reg ?_
    refine XR_a (op_build (ps := []) (cs := (kC none none 0 0 0 0).toArray) rfl rfl) rfl rfl ?_
    refine XR_a (op_build (ps := []) (cs := (kC none none 0 0 0 0).toArray) rfl rfl) rfl rfl ?_
    refine XR_a (op_move rfl) rfl rfl ?_
    refine XR_wn (opl_store_whole (us := kC none none 0 0 0 0) st 2 rfl rfl rfl rfl rfl kC_one rfl) rfl rfl fun _ hp st => ?_
    simp only [List.set_cons_zero, List.set_cons_succ] at st
    refine XR_wn (opl_store_whole (us := kC none none 0 0 0 0) st 1 rfl rfl rfl rfl rfl kC_one rfl) rfl rfl fun _ hp st => ?_
    simp only [List.set_cons_zero, List.set_cons_succ] at st
    refine XR_a (op_assign rfl) rfl rfl ?_
    refine XR_a (op_assign rfl) rfl rfl ?_
    refine XR_nil ?_
    refine X_ret (.cons (RV_agg (vs := kC _ _ _ _ _ _) rfl rfl rfl (st.cells 2 rfl)) (.cons (RV_agg (vs := kC _ _ _ _ _ _) rfl rfl rfl (st.cells 1 rfl)) (.cons (.tmp rfl) (.cons (.tmp rfl) .nil)))) ?_
    exact ⟨_, _, 0, rfl, ⟨rfl, rfl, kC_one, kC_one⟩, st.low, fun h9 => absurd h9 (by simp only; omega)⟩
  · rw [if_neg (by omega)] at hN
    obtain rfl := hat (by omega)
    have hx1 := takeR_at (bs := bs) (a := 0) (ok := okR bs 0) (by rw [hX]; omega) (by omega)
    rw [hX] at hx1
    refine X_skip ?_
    refine X_seq ?_
    refine X_reg ?_
    refine XR_a (op_move rfl) rfl rfl ?_
    refine XR_a (op_move rfl) rfl rfl ?_
    refine XR_wa (opl_call (take09_ref (a := X.2.1) (hr.ext st.low) hl hm hmc (by omega)) rfl (by kernel_rfl)) rfl rfl rfl ?_
    rintro _ hp ⟨w2, x2, rfl, hat2, st1⟩
    rw [hY] at hat2 st1 ⊢
    replace st := (st.join st1)
    simp only [List.cons_append, List.nil_append] at st
    clear st1
    obtain ⟨A2, n2, c2, rfl, hl2, _⟩ := st.row 0 rfl
    rw [List.length_map, Nat.mul_one] at hl2
    refine XR_a (op_move rfl) rfl rfl ?_
    refine XR_a (op_extract rfl rfl) rfl rfl ?_
    refine XR_a (op_extract rfl rfl) rfl rfl ?_
    refine XR_a (op_extract rfl rfl) rfl rfl ?_
    refine XR_a (op_assign rfl) rfl rfl ?_
    refine XR_a (op_assign rfl) rfl rfl ?_
    refine XR_a (op_assign rfl) rfl rfl ?_
    refine XR_nil ?_
    refine X_seq ?_
    refine X_seq ?_
    refine X_reg ?_
    refine XR_a (op_move rfl) rfl rfl ?_
    refine XR_a (op_neq rfl rfl) rfl rfl ?_
    refine XR_nil ?_
    refine X_if rfl (fun h => ?_) (fun h => ?_)
    · rw [if_pos (by omega)] at hN
      subst hN
      refine X_seq ?_
      refine X_reg ?_
      refine XR_a (op_build (ps := []) (cs := (kC none none 0 0 0 0).toArray) rfl rfl) rfl rfl ?_
      refine XR_a (op_build (ps := []) (cs := (kC none none 0 0 0 0).toArray) rfl rfl) rfl rfl ?_
      refine XR_a (op_move rfl) rfl rfl ?_
      refine XR_wn (opl_store_whole (us := kC none none 0 0 0 0) st 3 rfl rfl rfl rfl rfl kC_one rfl) rfl rfl fun _ hp st => ?_
      simp only [List.set_cons_zero, List.set_cons_succ] at st
      refine XR_wn (opl_store_whole (us := kC none none 0 0 0 0) st 2 rfl rfl rfl rfl rfl kC_one rfl) rfl rfl fun _ hp st => ?_
      simp only [List.set_cons_zero, List.set_cons_succ] at st
      refine XR_a (op_assign rfl) rfl rfl ?_
      refine XR_a (op_assign rfl) rfl rfl ?_
      refine XR_nil ?_
      refine X_ret (.cons (RV_agg (vs := kC _ _ _ _ _ _) rfl rfl rfl (st.cells 3 rfl)) (.cons (RV_agg (vs := kC _ _ _ _ _ _) rfl rfl rfl (st.cells 2 rfl)) (.cons (.tmp rfl) (.cons (.tmp rfl) .nil)))) ?_
      exact ⟨_, _, 0, rfl, ⟨rfl, rfl, kC_one, kC_one⟩, st.low, fun h9 => absurd h9 (by simp only; omega)⟩
    · rw [if_neg (by omega)] at hN
      obtain rfl := hat2 (by omega)
      have hx2 := takeR_at (bs := bs) (a := X.2.1) (ok := okR bs X.2.1) (by rw [hY]; omega) (by omega)
      rw [hY] at hx2
      refine X_skip ?_
      refine X_seq ?_
      refine X_seq ?_
      refine X_reg ?_
      refine XR_a (op_move rfl) rfl rfl ?_
      refine XR_a (op_len rfl rfl rfl) rfl rfl ?_
      refine XR_a (op_neq rfl rfl) rfl rfl ?_
      refine XR_a (op_move rfl) rfl rfl ?_
      refine XR_if 36 rfl (fun h => ?_) (fun h => ?_)
      · rw [if_pos (by omega)] at hN
        subst hN
        refine XR_no rfl rfl ?_
        refine XR_no rfl rfl ?_
        refine XR_no rfl rfl ?_
        refine XR_a (op_pick_t rfl rfl) rfl rfl ?_
        refine XR_nil ?_
        refine X_then rfl ?_
        refine X_seq ?_
        refine X_reg ?_
        refine XR_a (op_build (ps := []) (cs := (kC none none 0 0 0 0).toArray) rfl rfl) rfl rfl ?_
        refine XR_a (op_build (ps := []) (cs := (kC none none 0 0 0 0).toArray) rfl rfl) rfl rfl ?_
        refine XR_wn (opl_store_whole (us := kC none none 0 0 0 0) st 3 rfl rfl rfl rfl rfl kC_one rfl) rfl rfl fun _ hp st => ?_
        simp only [List.set_cons_zero, List.set_cons_succ] at st
        refine XR_wn (opl_store_whole (us := kC none none 0 0 0 0) st 2 rfl rfl rfl rfl rfl kC_one rfl) rfl rfl fun _ hp st => ?_
        simp only [List.set_cons_zero, List.set_cons_succ] at st
        refine XR_a (op_assign rfl) rfl rfl ?_
        refine XR_a (op_assign rfl) rfl rfl ?_
        refine XR_nil ?_
        refine X_ret (.cons (RV_agg (vs := kC _ _ _ _ _ _) rfl rfl rfl (st.cells 3 rfl)) (.cons (RV_agg (vs := kC _ _ _ _ _ _) rfl rfl rfl (st.cells 2 rfl)) (.cons (.tmp rfl) (.cons (.tmp rfl) .nil)))) ?_
        exact ⟨_, _, 0, rfl, ⟨rfl, rfl, kC_one, kC_one⟩, st.low, fun h9 => absurd h9 (by decide)⟩
      · refine XR_a (op_move rfl) rfl rfl ?_
        refine XR_a (op_len rfl rfl rfl) rfl rfl ?_
        refine XR_a (op_neq rfl rfl) rfl rfl ?_
        refine XR_a (op_pick_f rfl rfl) rfl rfl ?_
        refine XR_nil ?_
        refine X_if rfl (fun h => ?_) (fun h => ?_)
        · rw [if_pos (by omega)] at hN
          subst hN
          refine X_seq ?_
          refine X_reg ?_
          refine XR_a (op_build (ps := []) (cs := (kC none none 0 0 0 0).toArray) rfl rfl) rfl rfl ?_
          refine XR_a (op_build (ps := []) (cs := (kC none none 0 0 0 0).toArray) rfl rfl) rfl rfl ?_
          refine XR_wn (opl_store_whole (us := kC none none 0 0 0 0) st 3 rfl rfl rfl rfl rfl kC_one rfl) rfl rfl fun _ hp st => ?_
          simp only [List.set_cons_zero, List.set_cons_succ] at st
          refine XR_wn (opl_store_whole (us := kC none none 0 0 0 0) st 2 rfl rfl rfl rfl rfl kC_one rfl) rfl rfl fun _ hp st => ?_
          simp only [List.set_cons_zero, List.set_cons_succ] at st
          refine XR_a (op_assign rfl) rfl rfl ?_
          refine XR_a (op_assign rfl) rfl rfl ?_
          refine XR_nil ?_
          refine X_ret (.cons (RV_agg (vs := kC _ _ _ _ _ _) rfl rfl rfl (st.cells 3 rfl)) (.cons (RV_agg (vs := kC _ _ _ _ _ _) rfl rfl rfl (st.cells 2 rfl)) (.cons (.tmp rfl) (.cons (.tmp rfl) .nil)))) ?_
          exact ⟨_, _, 0, rfl, ⟨rfl, rfl, kC_one, kC_one⟩, st.low, fun h9 => absurd h9 (by decide)⟩
        · rw [if_neg (by omega)] at hN
          refine X_skip ?_
          refine X_seq ?_
          refine X_seq ?_
          refine X_reg ?_
          refine XR_a (op_move rfl) rfl rfl ?_
          refine XR_wa (opl_call (right08_ref (li := castI X.1) (by rw [← hmn]; exact (st.rdS 1 rfl).2) (by rw [hcl]; exact hl1) (by omega)) rfl (by kernel_rfl)) rfl rfl rfl ?_
          rintro _ _ ⟨rfl, rfl⟩
          first | refine XR_a (op_notd rfl) rfl rfl ?_ | refine XR_a (op_not rfl) rfl rfl ?_
          refine XR_a (op_move rfl) rfl rfl ?_
          refine XR_if 46 rfl (fun h => ?_) (fun h => ?_)
          · rw [if_pos (.inl (by simpa using h))] at hN
            subst hN
            refine XR_no rfl rfl ?_
            refine XR_no rfl rfl ?_
            refine XR_no rfl rfl ?_
            refine XR_a (op_pick_t rfl rfl) rfl rfl ?_
            refine XR_nil ?_
            refine X_then rfl ?_
            refine X_seq ?_
            refine X_reg ?_
            refine XR_a (op_build (ps := []) (cs := (kC none none 0 0 0 0).toArray) rfl rfl) rfl rfl ?_
            refine XR_a (op_build (ps := []) (cs := (kC none none 0 0 0 0).toArray) rfl rfl) rfl rfl ?_
            refine XR_wn (opl_store_whole (us := kC none none 0 0 0 0) st 3 rfl rfl rfl rfl rfl kC_one rfl) rfl rfl fun _ hp st => ?_
            simp only [List.set_cons_zero, List.set_cons_succ] at st
            refine XR_wn (opl_store_whole (us := kC none none 0 0 0 0) st 2 rfl rfl rfl rfl rfl kC_one rfl) rfl rfl fun _ hp st => ?_
            simp only [List.set_cons_zero, List.set_cons_succ] at st
            refine XR_a (op_assign rfl) rfl rfl ?_
            refine XR_a (op_assign rfl) rfl rfl ?_
            refine XR_nil ?_
            refine X_ret (.cons (RV_agg (vs := kC _ _ _ _ _ _) rfl rfl rfl (st.cells 3 rfl)) (.cons (RV_agg (vs := kC _ _ _ _ _ _) rfl rfl rfl (st.cells 2 rfl)) (.cons (.tmp rfl) (.cons (.tmp rfl) .nil)))) ?_
            exact ⟨_, _, 0, rfl, ⟨rfl, rfl, kC_one, kC_one⟩, st.low, fun h9 => absurd h9 (by decide)⟩
          · refine XR_a (op_move rfl) rfl rfl ?_
            refine XR_wa (opl_call (right08_ref (li := castI Y.1) (by rw [← hmn]; exact (st.rdS 0 rfl).2) (by rw [hcl]; exact hl2) (by omega)) rfl (by kernel_rfl)) rfl rfl rfl ?_
            rintro _ _ ⟨rfl, rfl⟩
            first | refine XR_a (op_notd rfl) rfl rfl ?_ | refine XR_a (op_not rfl) rfl rfl ?_
            refine XR_a (op_pick_f rfl rfl) rfl rfl ?_
            refine XR_nil ?_
            refine X_if rfl (fun h => ?_) (fun h => ?_)
            · rw [if_pos (.inr (by simpa using h))] at hN
              subst hN
              refine X_seq ?_
              refine X_reg ?_
              refine XR_a (op_build (ps := []) (cs := (kC none none 0 0 0 0).toArray) rfl rfl) rfl rfl ?_
              refine XR_a (op_build (ps := []) (cs := (kC none none 0 0 0 0).toArray) rfl rfl) rfl rfl ?_
              refine XR_wn (opl_store_whole (us := kC none none 0 0 0 0) st 3 rfl rfl rfl rfl rfl kC_one rfl) rfl rfl fun _ hp st => ?_
              simp only [List.set_cons_zero, List.set_cons_succ] at st
              refine XR_wn (opl_store_whole (us := kC none none 0 0 0 0) st 2 rfl rfl rfl rfl rfl kC_one rfl) rfl rfl fun _ hp st => ?_
              simp only [List.set_cons_zero, List.set_cons_succ] at st
              refine XR_a (op_assign rfl) rfl rfl ?_
              refine XR_a (op_assign rfl) rfl rfl ?_
              refine XR_nil ?_
              refine X_ret (.cons (RV_agg (vs := kC _ _ _ _ _ _) rfl rfl rfl (st.cells 3 rfl)) (.cons (RV_agg (vs := kC _ _ _ _ _ _) rfl rfl rfl (st.cells 2 rfl)) (.cons (.tmp rfl) (.cons (.tmp rfl) .nil)))) ?_
              exact ⟨_, _, 0, rfl, ⟨rfl, rfl, kC_one, kC_one⟩, st.low, fun h9 => absurd h9 (by decide)⟩
            · have hR1 : rightC (castI X.1) := by simp_all
              have hR2 : rightC (castI Y.1) := by simp_all
              rw [if_neg (by rintro (h | h) <;> exact h (by assumption))] at hN
              subst hN
              obtain ⟨oka, okb, na, nb⟩ := hok rfl
              simp only at oka okb na nb
              obtain rfl : n1 = 273 := by omega
              obtain rfl : n2 = 30 := by omega
              refine X_skip ?_
              refine X_seq ?_
              refine X_reg ?_
              refine XR_a (op_move rfl) rfl rfl ?_
              refine XR_a (op_move rfl) rfl rfl ?_
              refine XR_wa (opl_call (values08_ref (ls := X.1) (st.rdS 1 rfl).2 hl1 oka) rfl (by kernel_rfl)) rfl rfl rfl ?_
              rintro v1 hp st1
              replace st := st.join st1
              simp only [List.cons_append, List.nil_append] at st
              clear st1
              obtain ⟨V1, m1, d1, rfl, hv1, _⟩ := st.row 0 rfl
              rw [List.length_map, vals_length, Nat.mul_one] at hv1
              obtain rfl : m1 = 273 := by omega
              refine XR_a (op_build (ps := [(0, .slice A1 273 c1), (1, .slice V1 273 d1), (2, nV 257)]) (cs := (kC A1 V1 273 c1 d1 257).toArray) rfl rfl) rfl rfl ?_
              refine XR_a (op_move rfl) rfl rfl ?_
              refine XR_a (op_move rfl) rfl rfl ?_
              refine XR_wa (opl_call (values08_ref (ls := Y.1) (st.rdS 1 rfl).2 hl2 okb) rfl (by kernel_rfl)) rfl rfl rfl ?_
              rintro v2 hp st1
              replace st := st.join st1
              simp only [List.cons_append, List.nil_append] at st
              clear st1
              obtain ⟨V2, m2, d2, rfl, hv2, _⟩ := st.row 0 rfl
              rw [List.length_map, vals_length, Nat.mul_one] at hv2
              obtain rfl : m2 = 30 := by omega
              refine XR_a (op_build (ps := [(0, .slice A2 30 c2), (1, .slice V2 30 d2), (2, nV 0)]) (cs := (kC A2 V2 30 c2 d2 0).toArray) rfl rfl) rfl rfl ?_
              refine XR_a (op_move rfl) rfl rfl ?_
              refine XR_wn (opl_store_whole (us := kC A1 V1 273 c1 d1 257) st 5 rfl rfl rfl rfl rfl kC_one rfl) rfl rfl fun _ hp st => ?_
              simp only [List.set_cons_zero, List.set_cons_succ] at st
              refine XR_wn (opl_store_whole (us := kC A2 V2 30 c2 d2 0) st 4 rfl rfl rfl rfl rfl kC_one rfl) rfl rfl fun _ hp st => ?_
              simp only [List.set_cons_zero, List.set_cons_succ] at st
              refine XR_a (op_assign rfl) rfl rfl ?_
              refine XR_a (op_assign rfl) rfl rfl ?_
              refine XR_nil ?_
              refine X_ret (.cons (RV_agg (vs := kC _ _ _ _ _ _) rfl rfl rfl (st.cells 5 rfl)) (.cons (RV_agg (vs := kC _ _ _ _ _ _) rfl rfl rfl (st.cells 4 rfl)) (.cons (.tmp rfl) (.cons (.tmp rfl) .nil)))) ?_
              exact ⟨_, _, _, rfl, ⟨rfl, rfl, kC_one, kC_one⟩, st.low, fun _ => ⟨rfl, by omega, A1, V1, c1, d1, A2, V2, c2, d2, rfl, rfl, (st.re 6 [3, 1, 2, 0, 4, 5] (by decide)).keep 4⟩⟩
end Go.Bn
end

section
set_option linter.unusedVariables false
set_option linter.unusedSimpArgs false
set_option maxHeartbeats 4000000
set_option maxRecDepth 20000
namespace Go.Bn
open Go Proofs
theorem next_ref {c1 d1 c2 d2 m c3 a : Nat} {A1 V1 A2 V2 A3 : Option Addr} {la lb : List Nat} {rb : List Bool} {h0 : Heap} (r1 : Rd h0 A1 (la.map nV)) (q1 : Rd h0 V1 ((vals la).map nV)) (r2 : Rd h0 A2 (lb.map nV)) (q2 : Rd h0 V2 ((vals lb).map nV))
    (oka : lensOK la) (okb : lensOK lb) (na : la.length = 273) (nb : lb.length = 30) (hrb : Rd h0 A3 ((b01 rb).map byteV)) (hlb : rb.length = m) (hm : m ≤ 1048576) (hmc : m ≤ c3) (ha : a ≤ m) :
    Ret Try.prog 75 [.agg (kC A1 V1 273 c1 d1 257).toArray, .agg (kC A2 V2 30 c2 d2 0).toArray, .slice A3 m c3, nV a] h0
      fun v h' => v = retVal [.agg (tokV (nextT la lb rb a).1).toArray, nV (nextT la lb rb a).2.1, .bool (nextT la lb rb a).2.2.1, nV (nextT la lb rb a).2.2.2] ∧ Ext h0 h' := by
  obtain ⟨N, hN⟩ : ∃ N, nextT la lb rb a = N := ⟨_, rfl⟩
  have hC1 := clsT_num (fr := 257) (bs := rb) (a := a) oka (by omega) (by omega)
  have hA1 := clsT_at (fr := 257) (bs := rb) (a := a) oka (by omega)
  rw [hN]
  unfold nextT at hN
  obtain ⟨C, hC⟩ : ∃ C, clsT la 257 rb a = C := ⟨_, rfl⟩
  rw [hC] at hN hC1 hA1
  have hC2 := clsT_num (fr := 0) (bs := rb) (a := C.2.1) okb (by omega) (by omega)
  obtain ⟨D, hD⟩ : ∃ D, clsT lb 0 rb C.2.1 = D := ⟨_, rfl⟩
  rw [hD] at hN hC2
  refine ret_of_X Try.func75 rfl rfl fun w0 hw0 => ?_
  simp only [argE, Nat.zero_add, Nat.reduceAdd]
  have st := St.start h0
  refine X_seq ?_
  refine X_reg ?_
  refine XR_wa (opl_bx (cs := kC A1 V1 273 c1 d1 257) rfl rfl) rfl rfl rfl ?_
  rintro _ hp ⟨p4, rfl, hnew⟩
  replace st := st.new hnew
  refine XR_wa (opl_bx (cs := kC A2 V2 30 c2 d2 0) rfl rfl) rfl rfl rfl ?_
  rintro _ hp ⟨p5, rfl, hnew⟩
  replace st := st.new hnew
  refine XR_wa (opl_new rfl) rfl rfl rfl ?_
  rintro _ hp ⟨p8, rfl, hnew⟩
  replace st := st.new hnew
  replace st : St h0.size h0 hp [pt p8 104 (tokV Tok.nil), pt p5 134 (kC A2 V2 30 c2 d2 0), pt p4 134 (kC A1 V1 273 c1 d1 257)] := st
  refine XR_a (op_assign rfl) rfl rfl ?_
  refine XR_a (op_assign rfl) rfl rfl ?_
  refine XR_a (op_assign rfl) rfl rfl ?_
  refine XR_nil ?_
  refine X_seq ?_
  refine X_reg ?_
  refine XR_a (op_ldA (vs := kC A1 V1 273 c1 d1 257) (st.cells 2 rfl) rfl rfl rfl rfl) rfl rfl ?_
  refine XR_a (op_move rfl) rfl rfl ?_
  refine XR_a (op_move rfl) rfl rfl ?_
  refine XR_wa (opl_call (sym_ref (fr := 257) (r1.ext st.low) na (q1.ext st.low) oka (hrb.ext st.low) hlb hm hmc ha (by omega) (by omega)) rfl (by kernel_rfl)) rfl rfl rfl ?_
  rintro _ hp ⟨rfl, hx5⟩
  replace st := st.ext hx5
  rw [hC]
  refine XR_a (op_move rfl) rfl rfl ?_
  refine XR_a (op_extract rfl rfl) rfl rfl ?_
  refine XR_a (op_extract rfl rfl) rfl rfl ?_
  refine XR_a (op_extract rfl rfl) rfl rfl ?_
  refine XR_wa (opl_new rfl) rfl rfl rfl ?_
  rintro _ hp ⟨p12, rfl, hnew⟩
  replace st := st.new hnew
  refine XR_wn (opl_store_whole (us := clsV C.1) st 0 rfl rfl rfl rfl rfl (clsV_one _) rfl) rfl rfl fun _ hp st => ?_
  simp only [List.set_cons_zero, List.set_cons_succ] at st
  refine XR_a (op_assign rfl) rfl rfl ?_
  refine XR_a (op_assign rfl) rfl rfl ?_
  refine XR_nil ?_
  refine X_seq ?_
  refine X_seq ?_
  refine X_reg ?_
  refine XR_a (op_move rfl) rfl rfl ?_
  refine XR_a (op_neq rfl rfl) rfl rfl ?_
  refine XR_a (op_move rfl) rfl rfl ?_
  refine XR_if 27 rfl (fun h => ?_) (fun h => ?_)
  · rw [if_pos (by omega)] at hN
    subst hN
    refine XR_no rfl rfl ?_
    refine XR_no rfl rfl ?_
    refine XR_no rfl rfl ?_
    refine XR_a (op_pick_t rfl rfl) rfl rfl ?_
    refine XR_nil ?_
    refine X_then rfl ?_
    refine X_seq ?_
    refine X_reg ?_
    refine XR_a (op_build (ps := []) (cs := (tokV Tok.nil).toArray) rfl rfl) rfl rfl ?_
    refine XR_a (op_move rfl) rfl rfl ?_
    refine XR_a (op_move rfl) rfl rfl ?_
    refine XR_wn (opl_store_whole (us := tokV Tok.nil) st 1 rfl rfl rfl rfl rfl (tokV_one _) rfl) rfl rfl fun _ hp st => ?_
    simp only [List.set_cons_zero, List.set_cons_succ] at st
    refine XR_a (op_assign rfl) rfl rfl ?_
    refine XR_a (op_assign rfl) rfl rfl ?_
    refine XR_a (op_assign rfl) rfl rfl ?_
    refine XR_nil ?_
    refine X_ret (.cons (RV_agg (vs := tokV _) rfl rfl rfl (st.cells 1 rfl)) (.cons (.tmp rfl) (.cons (.tmp rfl) (.cons (.tmp rfl) .nil)))) ?_
    exact ⟨rfl, st.low⟩
  · first | refine XR_a (op_field0 rfl rfl) rfl rfl ?_ | refine XR_a (op_fieldn rfl rfl) rfl rfl ?_
    refine XR_a (op_ld (st.cell 0 (i := 0) rfl rfl) rfl rfl rfl) rfl rfl ?_
    refine XR_a (op_eql rfl rfl) rfl rfl ?_
    refine XR_a (op_pick_f rfl rfl) rfl rfl ?_
    refine XR_nil ?_
    refine X_if rfl (fun h => ?_) (fun h => ?_)
    · rw [if_pos (by omega)] at hN
      subst hN
      refine X_seq ?_
      refine X_reg ?_
      refine XR_a (op_build (ps := []) (cs := (tokV Tok.nil).toArray) rfl rfl) rfl rfl ?_
      refine XR_a (op_move rfl) rfl rfl ?_
      refine XR_a (op_move rfl) rfl rfl ?_
      refine XR_wn (opl_store_whole (us := tokV Tok.nil) st 1 rfl rfl rfl rfl rfl (tokV_one _) rfl) rfl rfl fun _ hp st => ?_
      simp only [List.set_cons_zero, List.set_cons_succ] at st
      refine XR_a (op_assign rfl) rfl rfl ?_
      refine XR_a (op_assign rfl) rfl rfl ?_
      refine XR_a (op_assign rfl) rfl rfl ?_
      refine XR_nil ?_
      refine X_ret (.cons (RV_agg (vs := tokV _) rfl rfl rfl (st.cells 1 rfl)) (.cons (.tmp rfl) (.cons (.tmp rfl) (.cons (.tmp rfl) .nil)))) ?_
      exact ⟨rfl, st.low⟩
    · rw [if_neg (by omega)] at hN
      refine X_skip ?_
      refine X_seq ?_
      refine X_reg ?_
      refine XR_wa (opl_new rfl) rfl rfl rfl ?_
      rintro _ hp ⟨p14, rfl, hnew⟩
      replace st := st.new hnew
      replace st : St h0.size h0 hp [pt p14 111 (clsV Kls.nil), pt p12 111 (clsV C.1), pt p8 104 (tokV Tok.nil), pt p5 134 (kC A2 V2 30 c2 d2 0), pt p4 134 (kC A1 V1 273 c1 d1 257)] := st
      refine XR_nil ?_
      refine X_seq ?_
      refine X_seq ?_
      refine X_reg ?_
      first | refine XR_a (op_field0 rfl rfl) rfl rfl ?_ | refine XR_a (op_fieldn rfl rfl) rfl rfl ?_
      refine XR_a (op_ld (st.cell 1 (i := 0) rfl rfl) rfl rfl rfl) rfl rfl ?_
      refine XR_a (op_gtr rfl rfl) rfl rfl ?_
      refine XR_nil ?_
      refine X_if rfl (fun h => ?_) (fun h => ?_)
      · rw [if_pos (by omega)] at hN
        refine X_seq ?_
        refine X_reg ?_
        refine XR_a (op_ldA (vs := kC A2 V2 30 c2 d2 0) (st.cells 3 rfl) rfl rfl rfl rfl) rfl rfl ?_
        refine XR_a (op_move rfl) rfl rfl ?_
        refine XR_a (op_move rfl) rfl rfl ?_
        refine XR_wa (opl_call (sym_ref (fr := 0) (r2.ext st.low) nb (q2.ext st.low) okb (hrb.ext st.low) hlb hm hmc (by omega) (by omega) (by omega)) rfl (by kernel_rfl)) rfl rfl rfl ?_
        rintro _ hp ⟨rfl, hx5⟩
        replace st := st.ext hx5
        rw [hD]
        refine XR_a (op_move rfl) rfl rfl ?_
        refine XR_a (op_extract rfl rfl) rfl rfl ?_
        refine XR_a (op_extract rfl rfl) rfl rfl ?_
        refine XR_a (op_extract rfl rfl) rfl rfl ?_
        refine XR_wn (opl_store_whole (us := clsV D.1) st 0 rfl rfl rfl rfl rfl (clsV_one _) rfl) rfl rfl fun _ hp st => ?_
        simp only [List.set_cons_zero, List.set_cons_succ] at st
        refine XR_a (op_assign rfl) rfl rfl ?_
        refine XR_a (op_assign rfl) rfl rfl ?_
        refine XR_nil ?_
        refine X_seq ?_
        refine X_reg ?_
        refine XR_a (op_move rfl) rfl rfl ?_
        refine XR_a (op_neq rfl rfl) rfl rfl ?_
        refine XR_nil ?_
        refine X_if rfl (fun h => ?_) (fun h => ?_)
        · rw [if_pos (by omega)] at hN
          subst hN
          refine X_seq ?_
          refine X_reg ?_
          refine XR_a (op_build (ps := []) (cs := (tokV Tok.nil).toArray) rfl rfl) rfl rfl ?_
          refine XR_a (op_move rfl) rfl rfl ?_
          refine XR_a (op_move rfl) rfl rfl ?_
          refine XR_wn (opl_store_whole (us := tokV Tok.nil) st 2 rfl rfl rfl rfl rfl (tokV_one _) rfl) rfl rfl fun _ hp st => ?_
          simp only [List.set_cons_zero, List.set_cons_succ] at st
          refine XR_a (op_assign rfl) rfl rfl ?_
          refine XR_a (op_assign rfl) rfl rfl ?_
          refine XR_a (op_assign rfl) rfl rfl ?_
          refine XR_nil ?_
          refine X_ret (.cons (RV_agg (vs := tokV _) rfl rfl rfl (st.cells 2 rfl)) (.cons (.tmp rfl) (.cons (.tmp rfl) (.cons (.tmp rfl) .nil)))) ?_
          exact ⟨rfl, st.low⟩
        · rw [if_neg (by omega)] at hN
          obtain ⟨J, hJ⟩ : ∃ J, joinT ⟨C.1, D.1, true⟩ = J := ⟨_, rfl⟩
          rw [hJ] at hN
          refine X_skip ?_
          refine X_seq ?_
          refine X_reg ?_
          refine XR_a (op_ldA (vs := clsV C.1) (st.cells 1 rfl) rfl rfl rfl rfl) rfl rfl ?_
          refine XR_a (op_ldA (vs := clsV D.1) (st.cells 0 rfl) rfl rfl rfl rfl) rfl rfl ?_
          first | refine XR_a (op_field0 rfl rfl) rfl rfl ?_ | refine XR_a (op_fieldn rfl rfl) rfl rfl ?_
          refine XR_a (op_ld (st.cell 1 (i := 0) rfl rfl) rfl rfl rfl) rfl rfl ?_
          refine XR_a (op_gtr rfl rfl) rfl rfl ?_
          refine XR_as (.bool true) (congrArg Value.bool (decide_eq_true (by omega))) ?_
          refine XR_wa (opl_call (join_ref (a := C.1) (b := D.1) (m := true) ⟨hC1.2.2.1, hC1.2.2.2⟩ ⟨hC2.2.2.1, hC2.2.2.2⟩ _) rfl (by kernel_rfl)) rfl rfl rfl ?_
          rintro _ hp ⟨rfl, hx5⟩
          replace st := st.ext hx5
          rw [hJ]
          refine XR_a (op_move rfl) rfl rfl ?_
          refine XR_a (op_extract rfl rfl) rfl rfl ?_
          refine XR_a (op_extract rfl rfl) rfl rfl ?_
          refine XR_wa (opl_new rfl) rfl rfl rfl ?_
          rintro _ hp ⟨p15, rfl, hnew⟩
          replace st := st.new hnew
          refine XR_wn (opl_store_whole (us := tokV J.1) st 0 rfl rfl rfl rfl rfl (tokV_one _) rfl) rfl rfl fun _ hp st => ?_
          simp only [List.set_cons_zero, List.set_cons_succ] at st
          refine XR_a (op_assign rfl) rfl rfl ?_
          refine XR_nil ?_
          refine X_seq ?_
          refine X_seq ?_
          refine X_reg ?_
          refine XR_a (op_move rfl) rfl rfl ?_
          first | refine XR_a (op_notd rfl) rfl rfl ?_ | refine XR_a (op_not rfl) rfl rfl ?_
          refine XR_nil ?_
          refine X_cond rfl (fun h => ?_) (fun h => ?_)
          · rw [if_neg (by simpa using h)] at hN
            subst hN
            refine X_seq ?_
            refine X_reg ?_
            refine XR_a (op_build (ps := []) (cs := (tokV Tok.nil).toArray) rfl rfl) rfl rfl ?_
            refine XR_a (op_move rfl) rfl rfl ?_
            refine XR_wn (opl_store_whole (us := tokV Tok.nil) st 3 rfl rfl rfl rfl rfl (tokV_one _) rfl) rfl rfl fun _ hp st => ?_
            simp only [List.set_cons_zero, List.set_cons_succ] at st
            refine XR_a (op_assign rfl) rfl rfl ?_
            refine XR_a (op_assign rfl) rfl rfl ?_
            refine XR_a (op_assign rfl) rfl rfl ?_
            refine XR_nil ?_
            refine X_ret (.cons (RV_agg (vs := tokV _) rfl rfl rfl (st.cells 3 rfl)) (.cons (.tmp rfl) (.cons (.tmp rfl) (.cons (.tmp rfl) .nil)))) ?_
            exact ⟨rfl, st.low⟩
          · rw [if_pos (by simpa using h)] at hN
            subst hN
            refine X_skip ?_
            refine X_seq ?_
            refine X_reg ?_
            refine XR_a (op_ldA (vs := tokV J.1) (st.cells 0 rfl) rfl rfl rfl rfl) rfl rfl ?_
            refine XR_a (op_move rfl) rfl rfl ?_
            refine XR_wn (opl_store_whole (us := tokV J.1) st 3 rfl rfl rfl rfl rfl (tokV_one _) rfl) rfl rfl fun _ hp st => ?_
            simp only [List.set_cons_zero, List.set_cons_succ] at st
            refine XR_a (op_assign rfl) rfl rfl ?_
            refine XR_a (op_assign rfl) rfl rfl ?_
            refine XR_a (op_assign rfl) rfl rfl ?_
            refine XR_nil ?_
            refine X_ret (.cons (RV_agg (vs := tokV _) rfl rfl rfl (st.cells 3 rfl)) (.cons (.tmp rfl) (.cons (.tmp rfl) (.cons (.tmp rfl) .nil)))) ?_
            exact ⟨rfl, st.low⟩
      · rw [if_neg (by omega)] at hN
        obtain ⟨J, hJ⟩ : ∃ J, joinT ⟨C.1, Kls.nil, false⟩ = J := ⟨_, rfl⟩
        rw [hJ] at hN
        refine X_skip ?_
        refine X_seq ?_
        refine X_reg ?_
        refine XR_a (op_ldA (vs := clsV C.1) (st.cells 1 rfl) rfl rfl rfl rfl) rfl rfl ?_
        refine XR_a (op_ldA (vs := clsV Kls.nil) (st.cells 0 rfl) rfl rfl rfl rfl) rfl rfl ?_
        first | refine XR_a (op_field0 rfl rfl) rfl rfl ?_ | refine XR_a (op_fieldn rfl rfl) rfl rfl ?_
        refine XR_a (op_ld (st.cell 1 (i := 0) rfl rfl) rfl rfl rfl) rfl rfl ?_
        refine XR_a (op_gtr rfl rfl) rfl rfl ?_
        refine XR_as (.bool false) (congrArg Value.bool (decide_eq_false (by omega))) ?_
        refine XR_wa (opl_call (join_ref (a := C.1) (b := Kls.nil) (m := false) ⟨hC1.2.2.1, hC1.2.2.2⟩ ⟨Int.le_refl 0, by show (0 : Int) < 4294967296; omega⟩ _) rfl (by kernel_rfl)) rfl rfl rfl ?_
        rintro _ hp ⟨rfl, hx5⟩
        replace st := st.ext hx5
        rw [hJ]
        refine XR_a (op_move rfl) rfl rfl ?_
        refine XR_a (op_extract rfl rfl) rfl rfl ?_
        refine XR_a (op_extract rfl rfl) rfl rfl ?_
        refine XR_wa (opl_new rfl) rfl rfl rfl ?_
        rintro _ hp ⟨p15, rfl, hnew⟩
        replace st := st.new hnew
        refine XR_wn (opl_store_whole (us := tokV J.1) st 0 rfl rfl rfl rfl rfl (tokV_one _) rfl) rfl rfl fun _ hp st => ?_
        simp only [List.set_cons_zero, List.set_cons_succ] at st
        refine XR_a (op_assign rfl) rfl rfl ?_
        refine XR_nil ?_
        refine X_seq ?_
        refine X_seq ?_
        refine X_reg ?_
        refine XR_a (op_move rfl) rfl rfl ?_
        first | refine XR_a (op_notd rfl) rfl rfl ?_ | refine XR_a (op_not rfl) rfl rfl ?_
        refine XR_nil ?_
        refine X_cond rfl (fun h => ?_) (fun h => ?_)
        · rw [if_neg (by simpa using h)] at hN
          subst hN
          refine X_seq ?_
          refine X_reg ?_
          refine XR_a (op_build (ps := []) (cs := (tokV Tok.nil).toArray) rfl rfl) rfl rfl ?_
          refine XR_a (op_move rfl) rfl rfl ?_
          refine XR_wn (opl_store_whole (us := tokV Tok.nil) st 3 rfl rfl rfl rfl rfl (tokV_one _) rfl) rfl rfl fun _ hp st => ?_
          simp only [List.set_cons_zero, List.set_cons_succ] at st
          refine XR_a (op_assign rfl) rfl rfl ?_
          refine XR_a (op_assign rfl) rfl rfl ?_
          refine XR_a (op_assign rfl) rfl rfl ?_
          refine XR_nil ?_
          refine X_ret (.cons (RV_agg (vs := tokV _) rfl rfl rfl (st.cells 3 rfl)) (.cons (.tmp rfl) (.cons (.tmp rfl) (.cons (.tmp rfl) .nil)))) ?_
          exact ⟨rfl, st.low⟩
        · rw [if_pos (by simpa using h)] at hN
          subst hN
          refine X_skip ?_
          refine X_seq ?_
          refine X_reg ?_
          refine XR_a (op_ldA (vs := tokV J.1) (st.cells 0 rfl) rfl rfl rfl rfl) rfl rfl ?_
          refine XR_a (op_move rfl) rfl rfl ?_
          refine XR_wn (opl_store_whole (us := tokV J.1) st 3 rfl rfl rfl rfl rfl (tokV_one _) rfl) rfl rfl fun _ hp st => ?_
          simp only [List.set_cons_zero, List.set_cons_succ] at st
          refine XR_a (op_assign rfl) rfl rfl ?_
          refine XR_a (op_assign rfl) rfl rfl ?_
          refine XR_a (op_assign rfl) rfl rfl ?_
          refine XR_nil ?_
          refine X_ret (.cons (RV_agg (vs := tokV _) rfl rfl rfl (st.cells 3 rfl)) (.cons (.tmp rfl) (.cons (.tmp rfl) (.cons (.tmp rfl) .nil)))) ?_
          exact ⟨rfl, st.low⟩
@[reducible] def gC (n : Nat) (v : Value) (e : Nat) : List Value := [nV n, v, nV e]
theorem gC_one {n e : Nat} {v : Value} (h : Value.one v = true) : ∀ u ∈ gC n v e, Value.one u = true := by
  intro u hu
  simp only [gC, List.mem_cons, List.not_mem_nil, or_false] at hu
  rcases hu with rfl | rfl | rfl <;> first | rfl | exact h
theorem packed_ref {m c size : Nat} {A : Option Addr} {l : List UInt8} {h0 : Heap} (hr : Rd h0 A (l.map byteV)) (hl : l.length = m) (hm : m ≤ 131072) (hs : size ≤ 65536) :
    Ret Try.prog 46 [.slice A m c, nV size] h0 fun v h' => ∃ w gE, v = .agg (gC (codesT (bitsB l) 0).1 w gE).toArray ∧ Value.one w = true ∧
      ((codesT (bitsB l) 0).1 ≠ 0 → w = .slice none 0 0 ∧ Ext h0 h') ∧ ((codesT (bitsB l) 0).1 = 0 → ∃ gB, Giv (mvP (codesT (bitsB l) 0).2.1 (codesT (bitsB l) 0).2.2.1 (bitsB l) size) (codesT (bitsB l) 0).2.2.2 [] gB gE ∧ St h0.size h0 h' [row 5 1 w (gB.map byteV)]) := by
  have hbl := bitsB_length l
  obtain ⟨bs, hbs⟩ : ∃ bs, bitsB l = bs := ⟨_, rfl⟩
  have hok := codesT_ok (bs := bs) (a := 0)
  rw [hbs] at hbl ⊢
  obtain ⟨K, hK⟩ : ∃ K, codesT bs 0 = K := ⟨_, rfl⟩
  rw [hK] at hok ⊢
  refine ret_of_X Try.func46 rfl rfl fun w0 hw0 => ?_
  simp only [argE, Nat.zero_add, Nat.reduceAdd]
  have st := St.start h0
  refine X_seq ?_
  refine X_reg ?_
  refine XR_wa (opl_new rfl) rfl rfl rfl ?_
  rintro _ hp ⟨p4, rfl, hnew⟩
  replace st := st.new hnew
  replace st : St h0.size h0 hp [pt p4 30 (gC 0 (.slice none 0 0) 0)] := st
  refine XR_nil ?_
  refine X_seq ?_
  refine X_reg ?_
  refine XR_a (op_move rfl) rfl rfl ?_
  refine XR_wa (opl_call (unpack_ref (hr.ext st.low) hl (by omega)) rfl (by kernel_rfl)) rfl rfl rfl ?_
  rintro v5 hp st1
  rw [hbs] at st1
  replace st := st.join st1
  simp only [List.cons_append, List.nil_append] at st
  clear st1
  obtain ⟨A5, n5, c5, rfl, hl5, hc5, _⟩ := st.row 0 rfl
  rw [List.length_map, b01_length, Nat.mul_one] at hl5
  refine XR_a (op_assign rfl) rfl rfl ?_
  refine XR_nil ?_
  refine X_seq ?_
  refine X_reg ?_
  refine XR_a (op_move rfl) rfl rfl ?_
  refine XR_wa (opl_call (tables_ref (st.rdS 0 rfl).2 hl5 (by omega) hc5) rfl (by kernel_rfl)) rfl rfl rfl ?_
  rintro _ hp ⟨k1, k2, x, rfl, ⟨hk1, hk2, ho1, ho2⟩, hx5, hgo⟩
  rw [hK] at hgo ⊢
  refine XR_a (op_move rfl) rfl rfl ?_
  by_cases hK0 : K.1 = 0
  · obtain ⟨rfl, hxm, A1, V1, c1, d1, A2, V2, c2, d2, rfl, rfl, st1⟩ := hgo hK0
    obtain ⟨oka, okb, na, nb⟩ := hok hK0
    replace st := st.join st1
    simp only [List.cons_append, List.nil_append] at st
    clear st1
    refine XR_a (op_extract rfl rfl) rfl rfl ?_
    refine XR_a (op_extract rfl rfl) rfl rfl ?_
    refine XR_a (op_extract rfl rfl) rfl rfl ?_
    refine XR_a (op_extract rfl rfl) rfl rfl ?_
    refine XR_wa (opl_new rfl) rfl rfl rfl ?_
    rintro _ hp ⟨p6, rfl, hnew⟩
    replace st := st.new hnew
    refine XR_wa (opl_new rfl) rfl rfl rfl ?_
    rintro _ hp ⟨p7, rfl, hnew⟩
    replace st := st.new hnew
    replace st : St h0.size h0 hp [pt p7 134 (kC none none 0 0 0 0), pt p6 134 (kC none none 0 0 0 0), row 3 1 (.slice A1 273 c1) (K.2.1.map nV), row 3 1 (.slice V1 273 d1) ((vals K.2.1).map nV), row 3 1 (.slice A2 30 c2) (K.2.2.1.map nV), row 3 1 (.slice V2 30 d2) ((vals K.2.2.1).map nV), row 5 1 (.slice A5 n5 c5) ((b01 bs).map byteV), pt p4 30 (gC 0 (.slice none 0 0) 0)] := st
    refine XR_wn (opl_store_whole (us := kC A1 V1 273 c1 d1 257) st 1 rfl rfl rfl rfl rfl kC_one rfl) rfl rfl fun _ hp st => ?_
    simp only [List.set_cons_zero, List.set_cons_succ] at st
    refine XR_wn (opl_store_whole (us := kC A2 V2 30 c2 d2 0) st 0 rfl rfl rfl rfl rfl kC_one rfl) rfl rfl fun _ hp st => ?_
    simp only [List.set_cons_zero, List.set_cons_succ] at st
    refine XR_a (op_assign rfl) rfl rfl ?_
    refine XR_a (op_assign rfl) rfl rfl ?_
    refine XR_nil ?_
    refine X_seq ?_
    refine X_seq ?_
    refine X_reg ?_
    refine XR_a (op_move rfl) rfl rfl ?_
    refine XR_a (op_neq rfl rfl) rfl rfl ?_
    refine XR_as (.bool false) (congrArg Value.bool (decide_eq_false (by omega))) ?_
    refine XR_nil ?_
    refine X_else rfl ?_
    refine X_skip ?_
    refine X_seq ?_
    refine X_reg ?_
    refine XR_wa (opl_new rfl) rfl rfl rfl ?_
    rintro _ hp ⟨p10, rfl, hnew⟩
    replace st := st.new hnew
    replace st : St h0.size h0 hp [pt p10 30 (gC 0 (.slice none 0 0) 0), pt p7 134 (kC A2 V2 30 c2 d2 0), pt p6 134 (kC A1 V1 273 c1 d1 257), row 3 1 (.slice A1 273 c1) (K.2.1.map nV), row 3 1 (.slice V1 273 d1) ((vals K.2.1).map nV), row 3 1 (.slice A2 30 c2) (K.2.2.1.map nV), row 3 1 (.slice V2 30 d2) ((vals K.2.2.1).map nV), row 5 1 (.slice A5 n5 c5) ((b01 bs).map byteV), pt p4 30 (gC 0 (.slice none 0 0) 0)] := st
    refine XR_nil ?_
    refine X_seq ?_
    refine X_seq ?_
    refine X_reg ?_
    refine XR_a (op_assign rfl) rfl rfl ?_
    refine XR_nil ?_
    refine X_block ?_
    have mok := mvP_ok (la := K.2.1) (lb := K.2.2.1) (bs := bs) (size := size) oka okb
    replace st := (st.nilrow 5 1)
    replace st := st.re 10 [1, 0, 8, 4, 5, 6, 7, 9, 3, 2] (by decide)
    simp only [List.map_cons, List.map_nil, getR] at st
    obtain ⟨mv, hmv⟩ : ∃ mv, mvP K.2.1 K.2.2.1 bs size = mv := ⟨_, rfl⟩
    rw [hmv] at mok ⊢
    refine X_loop (fun s => n5 + 1 - s.1) (fun s => [(1, nV size), (4, .pointer (some ⟨p4, 0, none⟩)), (5, .slice A5 n5 c5), (6, .pointer (some ⟨p6, 0, none⟩)), (7, .pointer (some ⟨p7, 0, none⟩)), (8, nV s.2.1), (10, .pointer (some ⟨p10, 0, none⟩)), (11, nV s.1)])
      (fun (s : Nat × Nat × List UInt8 × Value) hp => s.1 ≤ s.2.1 ∧ s.2.1 ≤ n5 ∧ s.2.2.1.length ≤ size ∧ (∀ gB gE, Giv mv s.2.1 s.2.2.1 gB gE → Giv mv K.2.2.2 [] gB gE) ∧
        St h0.size h0 hp [pt p10 30 (gC 0 s.2.2.2 0), row 5 1 s.2.2.2 (s.2.2.1.map byteV), row 5 1 (.slice A5 n5 c5) ((b01 bs).map byteV), row 3 1 (.slice A1 273 c1) (K.2.1.map nV), row 3 1 (.slice V1 273 d1) ((vals K.2.1).map nV), row 3 1 (.slice A2 30 c2) (K.2.2.1.map nV), row 3 1 (.slice V2 30 d2) ((vals K.2.2.1).map nV), pt p4 30 (gC 0 (.slice none 0 0) 0), pt p6 134 (kC A1 V1 273 c1 d1 257), pt p7 134 (kC A2 V2 30 c2 d2 0)])
      (0, K.2.2.2, [], _) (.cons rfl (.cons rfl (.cons rfl (.cons rfl (.cons rfl (.cons rfl (.cons rfl (.cons rfl (.nil _))))))))) ⟨Nat.zero_le _, by simp only; omega, Nat.zero_le _, fun _ _ g => g, st⟩ ?_
    clear st
    rintro ⟨i, a, out, v⟩ hp ⟨hia, han, hos, hgv, st⟩
    simp only at hia han hos hgv st ⊢
    refine X_seq ?_
    refine X_seq ?_
    refine X_reg ?_
    refine XR_a (op_move rfl) rfl rfl ?_
    refine XR_a (op_move rfl) rfl rfl ?_
    refine XR_a (op_len rfl rfl rfl) rfl rfl ?_
    refine XR_a (op_leq rfl rfl) rfl rfl ?_
    refine XR_nil ?_
    refine X_if rfl (fun h => ?_) (fun h => ?_)
    · have hnx := nextT_at (la := K.2.1) (lb := K.2.2.1) (bs := bs) (a := a) oka okb (by omega)
      obtain ⟨A9, n9, c9, rfl, hl9, _⟩ := st.row 1 rfl
      have hl9 : out.length = n9 := by simpa using hl9
      obtain ⟨N, hN⟩ : ∃ N, nextT K.2.1 K.2.2.1 bs a = N := ⟨_, rfl⟩
      have hM : mv a out = mvP K.2.1 K.2.2.1 bs size a out := by rw [hmv]
      unfold mvP at hM
      rw [hN] at hnx hM
      refine X_skip ?_
      refine X_seq ?_
      refine X_block ?_
      refine X_seq ?_
      refine X_reg ?_
      refine XR_a (op_ldA (vs := kC A1 V1 273 c1 d1 257) (st.cells 8 rfl) rfl rfl rfl rfl) rfl rfl ?_
      refine XR_a (op_ldA (vs := kC A2 V2 30 c2 d2 0) (st.cells 9 rfl) rfl rfl rfl rfl) rfl rfl ?_
      refine XR_a (op_move rfl) rfl rfl ?_
      refine XR_a (op_move rfl) rfl rfl ?_
      refine XR_wa (opl_call (next_ref (st.rdS 3 rfl).2 (st.rdS 4 rfl).2 (st.rdS 5 rfl).2 (st.rdS 6 rfl).2 oka okb na nb (st.rdS 2 rfl).2 hl5 (by omega) hc5 han) rfl (by kernel_rfl)) rfl rfl rfl ?_
      rintro _ hp ⟨rfl, hx5⟩
      replace st := st.ext hx5
      rw [hN]
      refine XR_a (op_move rfl) rfl rfl ?_
      refine XR_a (op_extract rfl rfl) rfl rfl ?_
      refine XR_a (op_extract rfl rfl) rfl rfl ?_
      refine XR_a (op_extract rfl rfl) rfl rfl ?_
      refine XR_a (op_extract rfl rfl) rfl rfl ?_
      refine XR_wa (opl_new rfl) rfl rfl rfl ?_
      rintro _ hp ⟨p12, rfl, hnew⟩
      replace st := st.new hnew
      refine XR_wn (opl_store_whole (us := tokV N.1) st 0 rfl rfl rfl rfl rfl (tokV_one _) rfl) rfl rfl fun _ hp st => ?_
      simp only [List.set_cons_zero, List.set_cons_succ] at st
      refine XR_a (op_assign rfl) rfl rfl ?_
      refine XR_a (op_assign rfl) rfl rfl ?_
      refine XR_a (op_assign rfl) rfl rfl ?_
      refine XR_nil ?_
      refine X_seq ?_
      refine X_reg ?_
      refine XR_a (op_move rfl) rfl rfl ?_
      refine XR_a (op_assign rfl) rfl rfl ?_
      refine XR_nil ?_
      refine X_seq ?_
      refine X_seq ?_
      refine X_reg ?_
      refine XR_a (op_move rfl) rfl rfl ?_
      refine XR_nil ?_
      refine X_cond rfl (fun h => ?_) (fun h => ?_)
      · rw [if_pos h] at hM
        have hgf := hgv _ _ (Giv.over (mv := mv) (a := a) (out := out) (by rw [hM]))
        rw [hM] at hgf
        simp only at hgf
        unfold endE at hgf
        rw [hbl, hl] at hgf
        refine X_seq ?_
        refine X_reg ?_
        refine XR_a (op_move rfl) rfl rfl ?_
        first | refine XR_a (op_field0 rfl rfl) rfl rfl ?_ | refine XR_a (op_fieldn rfl rfl) rfl rfl ?_
        refine XR_wn (opl_store_pt st 1 rfl rfl rfl rfl rfl (rfl)) rfl rfl fun _ hp st => ?_
        simp only [List.set_cons_zero, List.set_cons_succ] at st
        refine XR_nil ?_
        refine X_seq ?_
        refine X_seq ?_
        refine X_reg ?_
        refine XR_a (op_move rfl) rfl rfl ?_
        refine XR_a (op_eql rfl rfl) rfl rfl ?_
        refine XR_a (op_move rfl) rfl rfl ?_
        refine XR_if 54 rfl (fun h => ?_) (fun h => ?_)
        · first | refine XR_a (op_field0 rfl rfl) rfl rfl ?_ | refine XR_a (op_fieldn rfl rfl) rfl rfl ?_
          refine XR_a (op_ld (st.cell 1 (i := 1) rfl rfl) rfl rfl rfl) rfl rfl ?_
          refine XR_a (op_len rfl rfl rfl) rfl rfl ?_
          refine XR_a (op_move rfl) rfl rfl ?_
          refine XR_a (op_lss rfl rfl) rfl rfl ?_
          refine XR_a (op_pick_t rfl rfl) rfl rfl ?_
          refine XR_nil ?_
          refine X_if rfl (fun h => ?_) (fun h => ?_)
          · refine X_reg ?_
            first | refine XR_a (op_field0 rfl rfl) rfl rfl ?_ | refine XR_a (op_fieldn rfl rfl) rfl rfl ?_
            refine XR_wn (opl_store_pt st 1 rfl rfl rfl rfl rfl (rfl)) rfl rfl fun _ hp st => ?_
            simp only [List.set_cons_zero, List.set_cons_succ] at st
            refine XR_nil ?_
            refine X_seq ?_
            refine X_seq ?_
            refine X_reg ?_
            first | refine XR_a (op_field0 rfl rfl) rfl rfl ?_ | refine XR_a (op_fieldn rfl rfl) rfl rfl ?_
            refine XR_a (op_ld (st.cell 1 (i := 2) rfl rfl) rfl rfl rfl) rfl rfl ?_
            refine XR_a (op_eql rfl rfl) rfl rfl ?_
            refine XR_as (.bool false) (congrArg Value.bool (decide_eq_false (by decide))) ?_
            refine XR_a (op_move rfl) rfl rfl ?_
            refine XR_no rfl rfl ?_
            refine XR_no rfl rfl ?_
            refine XR_no rfl rfl ?_
            refine XR_no rfl rfl ?_
            refine XR_no rfl rfl ?_
            refine XR_no rfl rfl ?_
            refine XR_no rfl rfl ?_
            refine XR_no rfl rfl ?_
            refine XR_no rfl rfl ?_
            refine XR_no rfl rfl ?_
            refine XR_no rfl rfl ?_
            refine XR_a (op_pick_f rfl rfl) rfl rfl ?_
            refine XR_nil ?_
            refine X_else rfl ?_
            refine X_skip ?_
            refine X_seq ?_
            refine X_reg ?_
            refine XR_a (op_ldA (vs := gC 0 (.slice A9 n9 c9) 5) (st.cells 1 rfl) rfl rfl rfl rfl) rfl rfl ?_
            refine XR_wn (opl_store_whole (us := gC 0 (.slice A9 n9 c9) 5) st 8 rfl rfl rfl rfl rfl (gC_one rfl) rfl) rfl rfl fun _ hp st => ?_
            simp only [List.set_cons_zero, List.set_cons_succ] at st
            refine XR_nil ?_
            refine X_ret (.cons (RV_agg (vs := gC _ _ _) rfl rfl rfl (st.cells 8 rfl)) .nil) ?_
            rw [if_neg (by omega), if_pos (by omega)] at hgf
            exact ⟨_, _, by rw [hK0]; rfl, rfl, fun h9 => absurd hK0 h9, fun _ => ⟨out, hgf, (st.re 11 [2, 0, 1, 3, 4, 5, 6, 7, 8, 9, 10] (by decide)).keep 1⟩⟩
          · refine X_skip ?_
            refine X_seq ?_
            refine X_seq ?_
            refine X_reg ?_
            first | refine XR_a (op_field0 rfl rfl) rfl rfl ?_ | refine XR_a (op_fieldn rfl rfl) rfl rfl ?_
            refine XR_a (op_ld (st.cell 1 (i := 2) rfl rfl) rfl rfl rfl) rfl rfl ?_
            refine XR_a (op_eql rfl rfl) rfl rfl ?_
            refine XR_as (.bool true) (congrArg Value.bool (decide_eq_true (by omega))) ?_
            refine XR_a (op_move rfl) rfl rfl ?_
            refine XR_a (op_move rfl) rfl rfl ?_
            refine XR_a (op_len rfl rfl rfl) rfl rfl ?_
            refine XR_a (op_move rfl) rfl rfl ?_
            first | refine XR_a (op_subN rfl rfl (by omega) (by simp only [inK]; omega)) rfl rfl ?_ | refine XR_a (op_subI rfl rfl (by simp only [inK]; omega)) rfl rfl ?_ | refine XR_a (op_sub rfl rfl) rfl rfl ?_
            refine XR_a (op_gtr rfl rfl) rfl rfl ?_
            refine XR_a (op_move rfl) rfl rfl ?_
            refine XR_if 71 rfl (fun h => ?_) (fun h => ?_)
            · refine XR_no rfl rfl ?_
              refine XR_no rfl rfl ?_
              refine XR_no rfl rfl ?_
              refine XR_no rfl rfl ?_
              refine XR_a (op_pick_t rfl rfl) rfl rfl ?_
              refine XR_a (op_pick_t rfl rfl) rfl rfl ?_
              refine XR_nil ?_
              refine X_then rfl ?_
              refine X_reg ?_
              first | refine XR_a (op_field0 rfl rfl) rfl rfl ?_ | refine XR_a (op_fieldn rfl rfl) rfl rfl ?_
              refine XR_wn (opl_store_pt st 1 rfl rfl rfl rfl rfl (rfl)) rfl rfl fun _ hp st => ?_
              simp only [List.set_cons_zero, List.set_cons_succ] at st
              refine XR_nil ?_
              refine X_seq ?_
              refine X_reg ?_
              refine XR_a (op_ldA (vs := gC 0 (.slice A9 n9 c9) 3) (st.cells 1 rfl) rfl rfl rfl rfl) rfl rfl ?_
              refine XR_wn (opl_store_whole (us := gC 0 (.slice A9 n9 c9) 3) st 8 rfl rfl rfl rfl rfl (gC_one rfl) rfl) rfl rfl fun _ hp st => ?_
              simp only [List.set_cons_zero, List.set_cons_succ] at st
              refine XR_nil ?_
              refine X_ret (.cons (RV_agg (vs := gC _ _ _) rfl rfl rfl (st.cells 8 rfl)) .nil) ?_
              rw [if_neg (by omega), if_neg (by omega), if_pos (by omega)] at hgf
              exact ⟨_, _, by rw [hK0]; rfl, rfl, fun h9 => absurd hK0 h9, fun _ => ⟨out, hgf, (st.re 11 [2, 0, 1, 3, 4, 5, 6, 7, 8, 9, 10] (by decide)).keep 1⟩⟩
            · refine XR_a (op_move rfl) rfl rfl ?_
              refine XR_a (op_move rfl) rfl rfl ?_
              refine XR_wa (opl_call (number_ref (k := 8) (st.rdS 3 rfl).2 hl5 (by omega) (by omega)) rfl (by kernel_rfl)) rfl rfl rfl ?_
              rintro _ _ ⟨rfl, rfl⟩
              rw [show wd 32 8 = 8 from rfl]
              refine XR_a (op_neq rfl rfl) rfl rfl ?_
              refine XR_a (op_pick_f rfl rfl) rfl rfl ?_
              refine XR_a (op_pick_t rfl rfl) rfl rfl ?_
              refine XR_nil ?_
              refine X_if rfl (fun h => ?_) (fun h => ?_)
              · refine X_reg ?_
                first | refine XR_a (op_field0 rfl rfl) rfl rfl ?_ | refine XR_a (op_fieldn rfl rfl) rfl rfl ?_
                refine XR_wn (opl_store_pt st 1 rfl rfl rfl rfl rfl (rfl)) rfl rfl fun _ hp st => ?_
                simp only [List.set_cons_zero, List.set_cons_succ] at st
                refine XR_nil ?_
                refine X_seq ?_
                refine X_reg ?_
                refine XR_a (op_ldA (vs := gC 0 (.slice A9 n9 c9) 3) (st.cells 1 rfl) rfl rfl rfl rfl) rfl rfl ?_
                refine XR_wn (opl_store_whole (us := gC 0 (.slice A9 n9 c9) 3) st 8 rfl rfl rfl rfl rfl (gC_one rfl) rfl) rfl rfl fun _ hp st => ?_
                simp only [List.set_cons_zero, List.set_cons_succ] at st
                refine XR_nil ?_
                refine X_ret (.cons (RV_agg (vs := gC _ _ _) rfl rfl rfl (st.cells 8 rfl)) .nil) ?_
                rw [if_neg (by omega), if_neg (by omega), if_pos (by omega)] at hgf
                exact ⟨_, _, by rw [hK0]; rfl, rfl, fun h9 => absurd hK0 h9, fun _ => ⟨out, hgf, (st.re 11 [2, 0, 1, 3, 4, 5, 6, 7, 8, 9, 10] (by decide)).keep 1⟩⟩
              · refine X_skip ?_
                refine X_seq ?_
                refine X_reg ?_
                refine XR_a (op_ldA (vs := gC 0 (.slice A9 n9 c9) N.2.2.2) (st.cells 1 rfl) rfl rfl rfl rfl) rfl rfl ?_
                refine XR_wn (opl_store_whole (us := gC 0 (.slice A9 n9 c9) N.2.2.2) st 8 rfl rfl rfl rfl rfl (gC_one rfl) rfl) rfl rfl fun _ hp st => ?_
                simp only [List.set_cons_zero, List.set_cons_succ] at st
                refine XR_nil ?_
                refine X_ret (.cons (RV_agg (vs := gC _ _ _) rfl rfl rfl (st.cells 8 rfl)) .nil) ?_
                rw [if_neg (by omega), if_neg (by omega), if_neg (by omega)] at hgf
                have hN0 : N.2.2.2 = 0 := by omega
                rw [← hN0] at hgf
                exact ⟨_, _, by rw [hK0]; rfl, rfl, fun h9 => absurd hK0 h9, fun _ => ⟨out, hgf, (st.re 11 [2, 0, 1, 3, 4, 5, 6, 7, 8, 9, 10] (by decide)).keep 1⟩⟩
        · refine XR_no rfl rfl ?_
          refine XR_no rfl rfl ?_
          refine XR_no rfl rfl ?_
          refine XR_no rfl rfl ?_
          refine XR_no rfl rfl ?_
          refine XR_a (op_pick_f rfl rfl) rfl rfl ?_
          refine XR_nil ?_
          refine X_else rfl ?_
          refine X_skip ?_
          refine X_seq ?_
          refine X_seq ?_
          refine X_reg ?_
          first | refine XR_a (op_field0 rfl rfl) rfl rfl ?_ | refine XR_a (op_fieldn rfl rfl) rfl rfl ?_
          refine XR_a (op_ld (st.cell 1 (i := 2) rfl rfl) rfl rfl rfl) rfl rfl ?_
          refine XR_a (op_eql rfl rfl) rfl rfl ?_
          refine XR_as (.bool false) (congrArg Value.bool (decide_eq_false (by omega))) ?_
          refine XR_a (op_move rfl) rfl rfl ?_
          refine XR_no rfl rfl ?_
          refine XR_no rfl rfl ?_
          refine XR_no rfl rfl ?_
          refine XR_no rfl rfl ?_
          refine XR_no rfl rfl ?_
          refine XR_no rfl rfl ?_
          refine XR_no rfl rfl ?_
          refine XR_no rfl rfl ?_
          refine XR_no rfl rfl ?_
          refine XR_no rfl rfl ?_
          refine XR_no rfl rfl ?_
          refine XR_a (op_pick_f rfl rfl) rfl rfl ?_
          refine XR_nil ?_
          refine X_else rfl ?_
          refine X_skip ?_
          refine X_seq ?_
          refine X_reg ?_
          refine XR_a (op_ldA (vs := gC 0 (.slice A9 n9 c9) N.2.2.2) (st.cells 1 rfl) rfl rfl rfl rfl) rfl rfl ?_
          refine XR_wn (opl_store_whole (us := gC 0 (.slice A9 n9 c9) N.2.2.2) st 8 rfl rfl rfl rfl rfl (gC_one rfl) rfl) rfl rfl fun _ hp st => ?_
          simp only [List.set_cons_zero, List.set_cons_succ] at st
          refine XR_nil ?_
          refine X_ret (.cons (RV_agg (vs := gC _ _ _) rfl rfl rfl (st.cells 8 rfl)) .nil) ?_
          rw [if_pos (by omega)] at hgf
          exact ⟨_, _, by rw [hK0]; rfl, rfl, fun h9 => absurd hK0 h9, fun _ => ⟨out, hgf, (st.re 11 [2, 0, 1, 3, 4, 5, 6, 7, 8, 9, 10] (by decide)).keep 1⟩⟩
      · rw [if_neg (by rw [h]; simp)] at hM
        obtain ⟨hlt, hne0, htr, hb0, hb1⟩ := hnx.2.2 h
        obtain ⟨hs1, hs2, hs3⟩ := Tok.size_le htr
        have htr2 := htr
        unfold Tok.right at htr2
        refine X_skip ?_
        refine X_seq ?_
        refine X_reg ?_
        first | refine XR_a (op_field0 rfl rfl) rfl rfl ?_ | refine XR_a (op_fieldn rfl rfl) rfl rfl ?_
        refine XR_a (op_ld (st.cell 0 (i := 1) rfl rfl) rfl rfl rfl) rfl rfl ?_
        refine XR_a (op_assign rfl) rfl rfl ?_
        refine XR_nil ?_
        refine X_seq ?_
        refine X_seq ?_
        refine X_reg ?_
        refine XR_a (op_move rfl) rfl rfl ?_
        refine XR_a (op_eql rfl rfl) rfl rfl ?_
        refine XR_nil ?_
        refine X_if rfl (fun h => ?_) (fun h => ?_)
        · refine X_reg ?_
          refine XR_a (op_assign rfl) rfl rfl ?_
          refine XR_nil ?_
          refine X_seq ?_
          refine X_seq ?_
          refine X_reg ?_
          first | refine XR_a (op_field0 rfl rfl) rfl rfl ?_ | refine XR_a (op_fieldn rfl rfl) rfl rfl ?_
          refine XR_a (op_ld (st.cell 0 (i := 2) rfl rfl) rfl rfl rfl) rfl rfl ?_
          first | refine XR_a (op_field0 rfl rfl) rfl rfl ?_ | refine XR_a (op_fieldn rfl rfl) rfl rfl ?_
          refine XR_a (op_ld (st.cell 1 (i := 1) rfl rfl) rfl rfl rfl) rfl rfl ?_
          refine XR_a (op_len rfl rfl rfl) rfl rfl ?_
          refine XR_a (op_gtr rfl rfl) rfl rfl ?_
          refine XR_nil ?_
          refine X_if rfl (fun h => ?_) (fun h => ?_)
          · rw [if_pos (by omega)] at hM
            have hgf := hgv _ _ (Giv.over (mv := mv) (a := a) (out := out) (by rw [hM]))
            rw [hM] at hgf
            refine X_seq ?_
            refine X_reg ?_
            first | refine XR_a (op_field0 rfl rfl) rfl rfl ?_ | refine XR_a (op_fieldn rfl rfl) rfl rfl ?_
            refine XR_wn (opl_store_pt st 1 rfl rfl rfl rfl rfl (rfl)) rfl rfl fun _ hp st => ?_
            simp only [List.set_cons_zero, List.set_cons_succ] at st
            refine XR_nil ?_
            refine X_seq ?_
            refine X_reg ?_
            refine XR_a (op_ldA (vs := gC 0 (.slice A9 n9 c9) 3) (st.cells 1 rfl) rfl rfl rfl rfl) rfl rfl ?_
            refine XR_wn (opl_store_whole (us := gC 0 (.slice A9 n9 c9) 3) st 8 rfl rfl rfl rfl rfl (gC_one rfl) rfl) rfl rfl fun _ hp st => ?_
            simp only [List.set_cons_zero, List.set_cons_succ] at st
            refine XR_nil ?_
            refine X_ret (.cons (RV_agg (vs := gC _ _ _) rfl rfl rfl (st.cells 8 rfl)) .nil) ?_
            exact ⟨_, _, by rw [hK0]; rfl, rfl, fun h9 => absurd hK0 h9, fun _ => ⟨out, hgf, (st.re 11 [2, 0, 1, 3, 4, 5, 6, 7, 8, 9, 10] (by decide)).keep 1⟩⟩
          · rw [if_neg (by omega)] at hM
            refine X_skip ?_
            refine X_seq ?_
            refine X_seq ?_
            refine X_reg ?_
            refine XR_a (op_move rfl) rfl rfl ?_
            refine XR_a (op_move rfl) rfl rfl ?_
            first | refine XR_a (op_field0 rfl rfl) rfl rfl ?_ | refine XR_a (op_fieldn rfl rfl) rfl rfl ?_
            refine XR_a (op_ld (st.cell 1 (i := 1) rfl rfl) rfl rfl rfl) rfl rfl ?_
            refine XR_a (op_len rfl rfl rfl) rfl rfl ?_
            refine XR_a (op_subI rfl rfl (by simp only [inK]; omega)) rfl rfl ?_
            refine XR_a (op_gtr rfl rfl) rfl rfl ?_
            refine XR_nil ?_
            refine X_if rfl (fun h => ?_) (fun h => ?_)
            · rw [if_pos (by omega)] at hM
              have hgf := hgv _ _ (Giv.over (mv := mv) (a := a) (out := out) (by rw [hM]))
              rw [hM] at hgf
              refine X_seq ?_
              refine X_reg ?_
              first | refine XR_a (op_field0 rfl rfl) rfl rfl ?_ | refine XR_a (op_fieldn rfl rfl) rfl rfl ?_
              refine XR_wn (opl_store_pt st 1 rfl rfl rfl rfl rfl (rfl)) rfl rfl fun _ hp st => ?_
              simp only [List.set_cons_zero, List.set_cons_succ] at st
              refine XR_nil ?_
              refine X_seq ?_
              refine X_reg ?_
              refine XR_a (op_ldA (vs := gC 0 (.slice A9 n9 c9) 5) (st.cells 1 rfl) rfl rfl rfl rfl) rfl rfl ?_
              refine XR_wn (opl_store_whole (us := gC 0 (.slice A9 n9 c9) 5) st 8 rfl rfl rfl rfl rfl (gC_one rfl) rfl) rfl rfl fun _ hp st => ?_
              simp only [List.set_cons_zero, List.set_cons_succ] at st
              refine XR_nil ?_
              refine X_ret (.cons (RV_agg (vs := gC _ _ _) rfl rfl rfl (st.cells 8 rfl)) .nil) ?_
              exact ⟨_, _, by rw [hK0]; rfl, rfl, fun h9 => absurd hK0 h9, fun _ => ⟨out, hgf, (st.re 11 [2, 0, 1, 3, 4, 5, 6, 7, 8, 9, 10] (by decide)).keep 1⟩⟩
            · rw [if_neg (by omega)] at hM
              have hel := expT_length htr out
              have hg2 : ∀ gB gE, Giv mv N.2.1 (expT N.1 out) gB gE → Giv mv K.2.2.2 [] gB gE := fun gB gE g => hgv _ _ (Giv.more (by rw [hM]) (by rw [hM]; exact g))
              refine X_skip ?_
              refine X_seq ?_
              refine X_seq ?_
              refine X_reg ?_
              first | refine XR_a (op_field0 rfl rfl) rfl rfl ?_ | refine XR_a (op_fieldn rfl rfl) rfl rfl ?_
              refine XR_a (op_ld (st.cell 0 (i := 1) rfl rfl) rfl rfl rfl) rfl rfl ?_
              refine XR_a (op_eql rfl rfl) rfl rfl ?_
              refine XR_nil ?_
              refine X_if rfl (fun h => ?_) (fun h => ?_)
              · refine X_reg ?_
                first | refine XR_a (op_field0 rfl rfl) rfl rfl ?_ | refine XR_a (op_fieldn rfl rfl) rfl rfl ?_
                refine XR_a (op_ld (st.cell 1 (i := 1) rfl rfl) rfl rfl rfl) rfl rfl ?_
                first | refine XR_a (op_field0 rfl rfl) rfl rfl ?_ | refine XR_a (op_fieldn rfl rfl) rfl rfl ?_
                refine XR_a (op_ld (st.cell 0 (i := 0) rfl rfl) rfl rfl rfl) rfl rfl ?_
                refine XR_wa (opl_var1 rfl rfl rfl) rfl rfl rfl ?_
                rintro _ hp ⟨A, rfl, hx, hrd⟩
                have st := st.ext hx
                refine XR_wa (opl_append st 2 rfl (hrd) (rfl) (by intro u hu; simp at hu; subst hu; rfl) (by simp; omega) rfl rfl rfl rfl rfl rfl rfl) rfl rfl rfl fun v hp st => ?_
                simp only [List.set_cons_zero, List.set_cons_succ] at st
                have e1 : [Value.int .u8 N.1.byte] = [UInt8.ofNat N.1.byte.toNat].map byteV := by
                  rw [List.map_cons, List.map_nil]
                  unfold byteV
                  rw [UInt8.toNat_ofNat', Nat.mod_eq_of_lt (by omega), Int.toNat_of_nonneg hb0]
                rw [e1, ← List.map_append] at st
                have hv9 := row_one st 2 rfl
                first | refine XR_a (op_field0 rfl rfl) rfl rfl ?_ | refine XR_a (op_fieldn rfl rfl) rfl rfl ?_
                refine XR_wn (opl_store_pt st 1 rfl rfl rfl rfl rfl (hv9)) rfl rfl fun _ hp st => ?_
                simp only [List.set_cons_zero, List.set_cons_succ] at st
                refine XR_nil ?_
                refine X_seq ?_
                refine X_reg ?_
                refine XR_a (op_assign rfl) rfl rfl ?_
                refine XR_nil ?_
                refine X_block ?_
                have hex : copyT (N.1.len.toNat - 0) N.1.dist.toNat (out ++ [UInt8.ofNat N.1.byte.toNat]) = expT N.1 out := by
                  unfold expT; rw [if_pos (by omega), show N.1.len.toNat - 0 = 0 by omega]; rfl
                obtain ⟨o3, ho3⟩ : ∃ o3, out ++ [UInt8.ofNat N.1.byte.toNat] = o3 := ⟨_, rfl⟩
                have ho3l : o3.length + (N.1.len.toNat - 0) = (expT N.1 out).length ∧ out.length ≤ o3.length := by rw [← ho3, hel]; simp; omega
                rw [ho3] at hex st
                refine X_loop (fun s => N.1.len.toNat - s.1) (fun s => [(1, nV size), (4, .pointer (some ⟨p4, 0, none⟩)), (5, .slice A5 n5 c5), (6, .pointer (some ⟨p6, 0, none⟩)), (7, .pointer (some ⟨p7, 0, none⟩)), (8, nV N.2.1), (10, .pointer (some ⟨p10, 0, none⟩)), (11, nV i), (12, .pointer (some ⟨p12, 0, none⟩)), (17, nV s.1)])
                  (fun (s : Nat × List UInt8 × Value) hp => s.1 ≤ N.1.len.toNat ∧ s.2.1.length + (N.1.len.toNat - s.1) = (expT N.1 out).length ∧ out.length ≤ s.2.1.length ∧ copyT (N.1.len.toNat - s.1) N.1.dist.toNat s.2.1 = expT N.1 out ∧
                    St h0.size h0 hp [pt p12 104 (tokV N.1), pt p10 30 (gC 0 s.2.2 0), row 5 1 s.2.2 (s.2.1.map byteV), row 5 1 (.slice A5 n5 c5) ((b01 bs).map byteV), row 3 1 (.slice A1 273 c1) (K.2.1.map nV), row 3 1 (.slice V1 273 d1) ((vals K.2.1).map nV), row 3 1 (.slice A2 30 c2) (K.2.2.1.map nV), row 3 1 (.slice V2 30 d2) ((vals K.2.2.1).map nV), pt p4 30 (gC 0 (.slice none 0 0) 0), pt p6 134 (kC A1 V1 273 c1 d1 257), pt p7 134 (kC A2 V2 30 c2 d2 0)])
                  (0, o3, _) (.cons rfl (.cons rfl (.cons rfl (.cons rfl (.cons rfl (.cons rfl (.cons rfl (.cons rfl (.cons rfl (.cons rfl (.nil _))))))))))) ⟨Nat.zero_le _, ho3l.1, ho3l.2, hex, st⟩ ?_
                clear st hex
                rintro ⟨k, o2, v2⟩ hp ⟨hk, hol, hoo, hcp, st⟩
                simp only at hk hol hoo hcp st ⊢
                refine X_seq ?_
                refine X_seq ?_
                refine X_reg ?_
                refine XR_a (op_move rfl) rfl rfl ?_
                first | refine XR_a (op_field0 rfl rfl) rfl rfl ?_ | refine XR_a (op_fieldn rfl rfl) rfl rfl ?_
                refine XR_a (op_ld (st.cell 0 (i := 1) rfl rfl) rfl rfl rfl) rfl rfl ?_
                refine XR_a (op_lss rfl rfl) rfl rfl ?_
                refine XR_nil ?_
                refine X_if rfl (fun h => ?_) (fun h => ?_)
                · obtain ⟨j, hj⟩ : ∃ j, N.1.len.toNat - k = j + 1 := ⟨N.1.len.toNat - k - 1, by omega⟩
                  rw [hj, copyT] at hcp
                  obtain ⟨A8, n8, c8, rfl, hl8, _, _, hrd8⟩ := st.row 2 rfl
                  have hl8 : o2.length = n8 := by simpa using hl8
                  first | rw [if_neg (by omega)] at htr2 | skip
                  obtain ⟨y, hy⟩ : ∃ y, o2.length - N.1.dist.toNat = y := ⟨_, rfl⟩
                  rw [hy] at hcp
                  have hyl : y < o2.length := by omega
                  obtain ⟨g2, g3, rfl, hcell⟩ := hrd8.at_ (by rw [List.length_map]; omega)
                  have hcy := hcell y (byteV o2[y]) (by simp [hyl])
                  rw [show o2.getD y 0 = o2[y] by simp [List.getD, hyl]] at hcp
                  refine X_skip ?_
                  refine X_seq ?_
                  refine X_block ?_
                  refine X_seq ?_
                  refine X_reg ?_
                  first | refine XR_a (op_field0 rfl rfl) rfl rfl ?_ | refine XR_a (op_fieldn rfl rfl) rfl rfl ?_
                  refine XR_a (op_ld (st.cell 1 (i := 1) rfl rfl) rfl rfl rfl) rfl rfl ?_
                  first | refine XR_a (op_field0 rfl rfl) rfl rfl ?_ | refine XR_a (op_fieldn rfl rfl) rfl rfl ?_
                  refine XR_a (op_ld (st.cell 1 (i := 1) rfl rfl) rfl rfl rfl) rfl rfl ?_
                  refine XR_a (op_len rfl rfl rfl) rfl rfl ?_
                  first | refine XR_a (op_field0 rfl rfl) rfl rfl ?_ | refine XR_a (op_fieldn rfl rfl) rfl rfl ?_
                  refine XR_a (op_ld (st.cell 0 (i := 2) rfl rfl) rfl rfl rfl) rfl rfl ?_
                  refine XR_a (op_subI rfl rfl (by simp only [inK]; omega)) rfl rfl ?_
                  refine XR_as (nV y) (congrArg (Value.int .i64) (by omega)) ?_
                  refine XR_a (op_index1 (i := y) rfl rfl rfl (by omega)) rfl rfl ?_
                  refine XR_a (op_ld (hcy) rfl rfl rfl) rfl rfl ?_
                  refine XR_a (op_assign rfl) rfl rfl ?_
                  refine XR_nil ?_
                  refine X_reg ?_
                  first | refine XR_a (op_field0 rfl rfl) rfl rfl ?_ | refine XR_a (op_fieldn rfl rfl) rfl rfl ?_
                  refine XR_a (op_ld (st.cell 1 (i := 1) rfl rfl) rfl rfl rfl) rfl rfl ?_
                  refine XR_a (op_move rfl) rfl rfl ?_
                  refine XR_wa (opl_var1 rfl rfl rfl) rfl rfl rfl ?_
                  rintro _ hp ⟨A, rfl, hx, hrd⟩
                  have st := st.ext hx
                  refine XR_wa (opl_append st 2 rfl (hrd) (rfl) (by intro u hu; simp at hu; subst hu; rfl) (by simp; omega) rfl rfl rfl rfl rfl rfl rfl) rfl rfl rfl fun v hp st => ?_
                  simp only [List.set_cons_zero, List.set_cons_succ] at st
                  rw [show [byteV o2[y]] = [o2[y]].map byteV from rfl, ← List.map_append] at st
                  have hv9 := row_one st 2 rfl
                  first | refine XR_a (op_field0 rfl rfl) rfl rfl ?_ | refine XR_a (op_fieldn rfl rfl) rfl rfl ?_
                  refine XR_wn (opl_store_pt st 1 rfl rfl rfl rfl rfl (hv9)) rfl rfl fun _ hp st => ?_
                  simp only [List.set_cons_zero, List.set_cons_succ] at st
                  refine XR_nil ?_
                  refine X_blk ?_
                  refine X_reg ?_
                  refine XR_a (op_move rfl) rfl rfl ?_
                  first | refine XR_a (op_addN (n := 1) rfl rfl (by simp only [inK]; omega)) rfl rfl ?_ | refine XR_a (op_addI rfl rfl (by simp only [inK]; omega)) rfl rfl ?_ | refine XR_a (op_add rfl rfl) rfl rfl ?_
                  refine XR_a (op_assign rfl) rfl rfl ?_
                  refine XR_nil ?_
                  refine X_again (k + 1, o2 ++ [o2[y]], _) (.cons rfl (.cons rfl (.cons rfl (.cons rfl (.cons rfl (.cons rfl (.cons rfl (.cons rfl (.cons rfl (.cons rfl (.nil _))))))))))) ⟨by simp only; omega, by simp; omega, by simp; omega, ?_, st⟩ (by simp only; omega)
                  simp only
                  rw [show N.1.len.toNat - (k + 1) = j by omega]
                  exact hcp
                · refine X_exit rfl ?_
                  refine X_blk ?_
                  refine X_reg ?_
                  refine XR_a (op_move rfl) rfl rfl ?_
                  first | refine XR_a (op_addN (n := 1) rfl rfl (by simp only [inK]; omega)) rfl rfl ?_ | refine XR_a (op_addI rfl rfl (by simp only [inK]; omega)) rfl rfl ?_ | refine XR_a (op_add rfl rfl) rfl rfl ?_
                  refine XR_a (op_assign rfl) rfl rfl ?_
                  refine XR_nil ?_
                  rw [show N.1.len.toNat - k = 0 by omega, copyT] at hcp
                  subst hcp
                  exact X_again (i + 1, N.2.1, expT N.1 out, v2) (.cons rfl (.cons rfl (.cons rfl (.cons rfl (.cons rfl (.cons rfl (.cons rfl (.cons rfl (.nil _))))))))) ⟨by simp only; omega, by simp only; omega, by simp only; omega, hg2, st.tail⟩ (by simp only; omega)
              · exfalso; omega
        · rw [if_neg (by omega)] at htr2
          refine X_skip ?_
          refine X_seq ?_
          refine X_seq ?_
          refine X_reg ?_
          first | refine XR_a (op_field0 rfl rfl) rfl rfl ?_ | refine XR_a (op_fieldn rfl rfl) rfl rfl ?_
          refine XR_a (op_ld (st.cell 0 (i := 2) rfl rfl) rfl rfl rfl) rfl rfl ?_
          first | refine XR_a (op_field0 rfl rfl) rfl rfl ?_ | refine XR_a (op_fieldn rfl rfl) rfl rfl ?_
          refine XR_a (op_ld (st.cell 1 (i := 1) rfl rfl) rfl rfl rfl) rfl rfl ?_
          refine XR_a (op_len rfl rfl rfl) rfl rfl ?_
          refine XR_a (op_gtr rfl rfl) rfl rfl ?_
          refine XR_nil ?_
          refine X_if rfl (fun h => ?_) (fun h => ?_)
          · rw [if_pos (by omega)] at hM
            have hgf := hgv _ _ (Giv.over (mv := mv) (a := a) (out := out) (by rw [hM]))
            rw [hM] at hgf
            refine X_seq ?_
            refine X_reg ?_
            first | refine XR_a (op_field0 rfl rfl) rfl rfl ?_ | refine XR_a (op_fieldn rfl rfl) rfl rfl ?_
            refine XR_wn (opl_store_pt st 1 rfl rfl rfl rfl rfl (rfl)) rfl rfl fun _ hp st => ?_
            simp only [List.set_cons_zero, List.set_cons_succ] at st
            refine XR_nil ?_
            refine X_seq ?_
            refine X_reg ?_
            refine XR_a (op_ldA (vs := gC 0 (.slice A9 n9 c9) 3) (st.cells 1 rfl) rfl rfl rfl rfl) rfl rfl ?_
            refine XR_wn (opl_store_whole (us := gC 0 (.slice A9 n9 c9) 3) st 8 rfl rfl rfl rfl rfl (gC_one rfl) rfl) rfl rfl fun _ hp st => ?_
            simp only [List.set_cons_zero, List.set_cons_succ] at st
            refine XR_nil ?_
            refine X_ret (.cons (RV_agg (vs := gC _ _ _) rfl rfl rfl (st.cells 8 rfl)) .nil) ?_
            exact ⟨_, _, by rw [hK0]; rfl, rfl, fun h9 => absurd hK0 h9, fun _ => ⟨out, hgf, (st.re 11 [2, 0, 1, 3, 4, 5, 6, 7, 8, 9, 10] (by decide)).keep 1⟩⟩
          · rw [if_neg (by omega)] at hM
            refine X_skip ?_
            refine X_seq ?_
            refine X_seq ?_
            refine X_reg ?_
            refine XR_a (op_move rfl) rfl rfl ?_
            refine XR_a (op_move rfl) rfl rfl ?_
            first | refine XR_a (op_field0 rfl rfl) rfl rfl ?_ | refine XR_a (op_fieldn rfl rfl) rfl rfl ?_
            refine XR_a (op_ld (st.cell 1 (i := 1) rfl rfl) rfl rfl rfl) rfl rfl ?_
            refine XR_a (op_len rfl rfl rfl) rfl rfl ?_
            refine XR_a (op_subI rfl rfl (by simp only [inK]; omega)) rfl rfl ?_
            refine XR_a (op_gtr rfl rfl) rfl rfl ?_
            refine XR_nil ?_
            refine X_if rfl (fun h => ?_) (fun h => ?_)
            · rw [if_pos (by omega)] at hM
              have hgf := hgv _ _ (Giv.over (mv := mv) (a := a) (out := out) (by rw [hM]))
              rw [hM] at hgf
              refine X_seq ?_
              refine X_reg ?_
              first | refine XR_a (op_field0 rfl rfl) rfl rfl ?_ | refine XR_a (op_fieldn rfl rfl) rfl rfl ?_
              refine XR_wn (opl_store_pt st 1 rfl rfl rfl rfl rfl (rfl)) rfl rfl fun _ hp st => ?_
              simp only [List.set_cons_zero, List.set_cons_succ] at st
              refine XR_nil ?_
              refine X_seq ?_
              refine X_reg ?_
              refine XR_a (op_ldA (vs := gC 0 (.slice A9 n9 c9) 5) (st.cells 1 rfl) rfl rfl rfl rfl) rfl rfl ?_
              refine XR_wn (opl_store_whole (us := gC 0 (.slice A9 n9 c9) 5) st 8 rfl rfl rfl rfl rfl (gC_one rfl) rfl) rfl rfl fun _ hp st => ?_
              simp only [List.set_cons_zero, List.set_cons_succ] at st
              refine XR_nil ?_
              refine X_ret (.cons (RV_agg (vs := gC _ _ _) rfl rfl rfl (st.cells 8 rfl)) .nil) ?_
              exact ⟨_, _, by rw [hK0]; rfl, rfl, fun h9 => absurd hK0 h9, fun _ => ⟨out, hgf, (st.re 11 [2, 0, 1, 3, 4, 5, 6, 7, 8, 9, 10] (by decide)).keep 1⟩⟩
            · rw [if_neg (by omega)] at hM
              have hel := expT_length htr out
              have hg2 : ∀ gB gE, Giv mv N.2.1 (expT N.1 out) gB gE → Giv mv K.2.2.2 [] gB gE := fun gB gE g => hgv _ _ (Giv.more (by rw [hM]) (by rw [hM]; exact g))
              refine X_skip ?_
              refine X_seq ?_
              refine X_seq ?_
              refine X_reg ?_
              first | refine XR_a (op_field0 rfl rfl) rfl rfl ?_ | refine XR_a (op_fieldn rfl rfl) rfl rfl ?_
              refine XR_a (op_ld (st.cell 0 (i := 1) rfl rfl) rfl rfl rfl) rfl rfl ?_
              refine XR_a (op_eql rfl rfl) rfl rfl ?_
              refine XR_nil ?_
              refine X_if rfl (fun h => ?_) (fun h => ?_)
              · exfalso; omega
              · refine X_skip ?_
                refine X_seq ?_
                refine X_reg ?_
                refine XR_a (op_assign rfl) rfl rfl ?_
                refine XR_nil ?_
                refine X_block ?_
                have hex : copyT (N.1.len.toNat - 0) N.1.dist.toNat out = expT N.1 out := by
                  unfold expT; rw [if_neg (by omega)]; rfl
                have ho3l : out.length + (N.1.len.toNat - 0) = (expT N.1 out).length ∧ out.length ≤ out.length := by rw [hel]; unfold Tok.size; omega
                refine X_loop (fun s => N.1.len.toNat - s.1) (fun s => [(1, nV size), (4, .pointer (some ⟨p4, 0, none⟩)), (5, .slice A5 n5 c5), (6, .pointer (some ⟨p6, 0, none⟩)), (7, .pointer (some ⟨p7, 0, none⟩)), (8, nV N.2.1), (10, .pointer (some ⟨p10, 0, none⟩)), (11, nV i), (12, .pointer (some ⟨p12, 0, none⟩)), (17, nV s.1)])
                  (fun (s : Nat × List UInt8 × Value) hp => s.1 ≤ N.1.len.toNat ∧ s.2.1.length + (N.1.len.toNat - s.1) = (expT N.1 out).length ∧ out.length ≤ s.2.1.length ∧ copyT (N.1.len.toNat - s.1) N.1.dist.toNat s.2.1 = expT N.1 out ∧
                    St h0.size h0 hp [pt p12 104 (tokV N.1), pt p10 30 (gC 0 s.2.2 0), row 5 1 s.2.2 (s.2.1.map byteV), row 5 1 (.slice A5 n5 c5) ((b01 bs).map byteV), row 3 1 (.slice A1 273 c1) (K.2.1.map nV), row 3 1 (.slice V1 273 d1) ((vals K.2.1).map nV), row 3 1 (.slice A2 30 c2) (K.2.2.1.map nV), row 3 1 (.slice V2 30 d2) ((vals K.2.2.1).map nV), pt p4 30 (gC 0 (.slice none 0 0) 0), pt p6 134 (kC A1 V1 273 c1 d1 257), pt p7 134 (kC A2 V2 30 c2 d2 0)])
                  (0, out, _) (.cons rfl (.cons rfl (.cons rfl (.cons rfl (.cons rfl (.cons rfl (.cons rfl (.cons rfl (.cons rfl (.cons rfl (.nil _))))))))))) ⟨Nat.zero_le _, ho3l.1, ho3l.2, hex, st⟩ ?_
                clear st hex
                rintro ⟨k, o2, v2⟩ hp ⟨hk, hol, hoo, hcp, st⟩
                simp only at hk hol hoo hcp st ⊢
                refine X_seq ?_
                refine X_seq ?_
                refine X_reg ?_
                refine XR_a (op_move rfl) rfl rfl ?_
                first | refine XR_a (op_field0 rfl rfl) rfl rfl ?_ | refine XR_a (op_fieldn rfl rfl) rfl rfl ?_
                refine XR_a (op_ld (st.cell 0 (i := 1) rfl rfl) rfl rfl rfl) rfl rfl ?_
                refine XR_a (op_lss rfl rfl) rfl rfl ?_
                refine XR_nil ?_
                refine X_if rfl (fun h => ?_) (fun h => ?_)
                · obtain ⟨j, hj⟩ : ∃ j, N.1.len.toNat - k = j + 1 := ⟨N.1.len.toNat - k - 1, by omega⟩
                  rw [hj, copyT] at hcp
                  obtain ⟨A8, n8, c8, rfl, hl8, _, _, hrd8⟩ := st.row 2 rfl
                  have hl8 : o2.length = n8 := by simpa using hl8
                  first | rw [if_neg (by omega)] at htr2 | skip
                  obtain ⟨y, hy⟩ : ∃ y, o2.length - N.1.dist.toNat = y := ⟨_, rfl⟩
                  rw [hy] at hcp
                  have hyl : y < o2.length := by omega
                  obtain ⟨g2, g3, rfl, hcell⟩ := hrd8.at_ (by rw [List.length_map]; omega)
                  have hcy := hcell y (byteV o2[y]) (by simp [hyl])
                  rw [show o2.getD y 0 = o2[y] by simp [List.getD, hyl]] at hcp
                  refine X_skip ?_
                  refine X_seq ?_
                  refine X_block ?_
                  refine X_seq ?_
                  refine X_reg ?_
                  first | refine XR_a (op_field0 rfl rfl) rfl rfl ?_ | refine XR_a (op_fieldn rfl rfl) rfl rfl ?_
                  refine XR_a (op_ld (st.cell 1 (i := 1) rfl rfl) rfl rfl rfl) rfl rfl ?_
                  first | refine XR_a (op_field0 rfl rfl) rfl rfl ?_ | refine XR_a (op_fieldn rfl rfl) rfl rfl ?_
                  refine XR_a (op_ld (st.cell 1 (i := 1) rfl rfl) rfl rfl rfl) rfl rfl ?_
                  refine XR_a (op_len rfl rfl rfl) rfl rfl ?_
                  first | refine XR_a (op_field0 rfl rfl) rfl rfl ?_ | refine XR_a (op_fieldn rfl rfl) rfl rfl ?_
                  refine XR_a (op_ld (st.cell 0 (i := 2) rfl rfl) rfl rfl rfl) rfl rfl ?_
                  refine XR_a (op_subI rfl rfl (by simp only [inK]; omega)) rfl rfl ?_
                  refine XR_as (nV y) (congrArg (Value.int .i64) (by omega)) ?_
                  refine XR_a (op_index1 (i := y) rfl rfl rfl (by omega)) rfl rfl ?_
                  refine XR_a (op_ld (hcy) rfl rfl rfl) rfl rfl ?_
                  refine XR_a (op_assign rfl) rfl rfl ?_
                  refine XR_nil ?_
                  refine X_reg ?_
                  first | refine XR_a (op_field0 rfl rfl) rfl rfl ?_ | refine XR_a (op_fieldn rfl rfl) rfl rfl ?_
                  refine XR_a (op_ld (st.cell 1 (i := 1) rfl rfl) rfl rfl rfl) rfl rfl ?_
                  refine XR_a (op_move rfl) rfl rfl ?_
                  refine XR_wa (opl_var1 rfl rfl rfl) rfl rfl rfl ?_
                  rintro _ hp ⟨A, rfl, hx, hrd⟩
                  have st := st.ext hx
                  refine XR_wa (opl_append st 2 rfl (hrd) (rfl) (by intro u hu; simp at hu; subst hu; rfl) (by simp; omega) rfl rfl rfl rfl rfl rfl rfl) rfl rfl rfl fun v hp st => ?_
                  simp only [List.set_cons_zero, List.set_cons_succ] at st
                  rw [show [byteV o2[y]] = [o2[y]].map byteV from rfl, ← List.map_append] at st
                  have hv9 := row_one st 2 rfl
                  first | refine XR_a (op_field0 rfl rfl) rfl rfl ?_ | refine XR_a (op_fieldn rfl rfl) rfl rfl ?_
                  refine XR_wn (opl_store_pt st 1 rfl rfl rfl rfl rfl (hv9)) rfl rfl fun _ hp st => ?_
                  simp only [List.set_cons_zero, List.set_cons_succ] at st
                  refine XR_nil ?_
                  refine X_blk ?_
                  refine X_reg ?_
                  refine XR_a (op_move rfl) rfl rfl ?_
                  first | refine XR_a (op_addN (n := 1) rfl rfl (by simp only [inK]; omega)) rfl rfl ?_ | refine XR_a (op_addI rfl rfl (by simp only [inK]; omega)) rfl rfl ?_ | refine XR_a (op_add rfl rfl) rfl rfl ?_
                  refine XR_a (op_assign rfl) rfl rfl ?_
                  refine XR_nil ?_
                  refine X_again (k + 1, o2 ++ [o2[y]], _) (.cons rfl (.cons rfl (.cons rfl (.cons rfl (.cons rfl (.cons rfl (.cons rfl (.cons rfl (.cons rfl (.cons rfl (.nil _))))))))))) ⟨by simp only; omega, by simp; omega, by simp; omega, ?_, st⟩ (by simp only; omega)
                  simp only
                  rw [show N.1.len.toNat - (k + 1) = j by omega]
                  exact hcp
                · refine X_exit rfl ?_
                  refine X_blk ?_
                  refine X_reg ?_
                  refine XR_a (op_move rfl) rfl rfl ?_
                  first | refine XR_a (op_addN (n := 1) rfl rfl (by simp only [inK]; omega)) rfl rfl ?_ | refine XR_a (op_addI rfl rfl (by simp only [inK]; omega)) rfl rfl ?_ | refine XR_a (op_add rfl rfl) rfl rfl ?_
                  refine XR_a (op_assign rfl) rfl rfl ?_
                  refine XR_nil ?_
                  rw [show N.1.len.toNat - k = 0 by omega, copyT] at hcp
                  subst hcp
                  exact X_again (i + 1, N.2.1, expT N.1 out, v2) (.cons rfl (.cons rfl (.cons rfl (.cons rfl (.cons rfl (.cons rfl (.cons rfl (.cons rfl (.nil _))))))))) ⟨by simp only; omega, by simp only; omega, by simp only; omega, hg2, st.tail⟩ (by simp only; omega)
    · exfalso; omega
  · replace st := st.ext hx5
    refine XR_a (op_extract rfl rfl) rfl rfl ?_
    refine XR_a (op_extract rfl rfl) rfl rfl ?_
    refine XR_a (op_extract rfl rfl) rfl rfl ?_
    refine XR_a (op_extract rfl rfl) rfl rfl ?_
    refine XR_wa (opl_new rfl) rfl rfl rfl ?_
    rintro _ hp ⟨p6, rfl, hnew⟩
    replace st := st.new hnew
    refine XR_wa (opl_new rfl) rfl rfl rfl ?_
    rintro _ hp ⟨p7, rfl, hnew⟩
    replace st := st.new hnew
    replace st : St h0.size h0 hp [pt p7 134 (kC none none 0 0 0 0), pt p6 134 (kC none none 0 0 0 0), row 5 1 (.slice A5 n5 c5) ((b01 bs).map byteV), pt p4 30 (gC 0 (.slice none 0 0) 0)] := st
    refine XR_wn (opl_store_whole (us := k1) st 1 rfl rfl rfl (by simp) (by rw [hk1]; rfl) ho1 hk1) rfl rfl fun _ hp st => ?_
    simp only [List.set_cons_zero, List.set_cons_succ] at st
    refine XR_wn (opl_store_whole (us := k2) st 0 rfl rfl rfl (by simp) (by rw [hk2]; rfl) ho2 hk2) rfl rfl fun _ hp st => ?_
    simp only [List.set_cons_zero, List.set_cons_succ] at st
    refine XR_a (op_assign rfl) rfl rfl ?_
    refine XR_a (op_assign rfl) rfl rfl ?_
    refine XR_nil ?_
    refine X_seq ?_
    refine X_seq ?_
    refine X_reg ?_
    refine XR_a (op_move rfl) rfl rfl ?_
    refine XR_a (op_neq rfl rfl) rfl rfl ?_
    refine XR_as (.bool true) (congrArg Value.bool (decide_eq_true (by omega))) ?_
    refine XR_nil ?_
    refine X_then rfl ?_
    refine X_seq ?_
    refine X_reg ?_
    refine XR_a (op_move rfl) rfl rfl ?_
    refine XR_a (op_build (ps := [(0, nV K.1)]) (cs := (gC K.1 (.slice none 0 0) 0).toArray) rfl rfl) rfl rfl ?_
    refine XR_wn (opl_store_whole (us := gC K.1 (.slice none 0 0) 0) st 3 rfl rfl rfl rfl rfl (gC_one rfl) rfl) rfl rfl fun _ hp st => ?_
    simp only [List.set_cons_zero, List.set_cons_succ] at st
    refine XR_nil ?_
    refine X_ret (.cons (RV_agg (vs := gC _ _ _) rfl rfl rfl (st.cells 3 rfl)) .nil) ?_
    exact ⟨_, _, rfl, rfl, fun _ => ⟨rfl, st.low⟩, fun h9 => absurd h9 hK0⟩
end Go.Bn
end
