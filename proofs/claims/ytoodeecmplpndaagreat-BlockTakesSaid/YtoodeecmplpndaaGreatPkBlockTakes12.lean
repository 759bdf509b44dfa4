/- Packed texts of a claim: what its theorem uses, joined. -/
import Derived.Test.YtoodeecmplpndaaGreatPkBlockTakes11
section
set_option linter.unusedVariables false
set_option linter.unusedSimpArgs false
set_option maxHeartbeats 4000000
set_option maxRecDepth 20000
namespace Go.Bn
open Go Proofs
theorem St.keepF2 {B : Nat} {h0 hp : Heap} {r1 r2 r3 : Res} {F : List Res} (s : St B h0 hp (r1 :: r2 :: r3 :: F)) : St B h0 hp (r1 :: r2 :: F) :=
 (St.reF [r1, r2, r3] 3 s [2, 0, 1] (by decide)).tail
theorem bclass_spec {B p q m c a fr : Nat} {A : Option Addr} {l : List UInt8} {ls : List Nat} {F : List Res} {h0 : Heap} (st0 : St B h0 h0 (rdG q A m c a :: codeR p ls :: F)) (hok : lensOK ls) (hrB : ∀ h', Low B h0 h' → Rd h' A (l.map byteV)) (hl : l.length = m) (hm : m ≤ 1073741824) (ha : a ≤ 8 * m) (hfr : ls.length ≤ fr + 30) (hfr2 : fr ≤ 300) :
  Ret Tryz.prog 67 [.pointer (some ⟨q, 0, none⟩), .pointer (some ⟨p, 0, none⟩), nV fr] h0
   fun v h' => v = retVal [.agg (clsV (clsT ls fr (bitsB l) a).1).toArray, nV (clsT ls fr (bitsB l) a).2.2] ∧ St B h0 h' (rdG q A m c (clsT ls fr (bitsB l) a).2.1 :: codeR p ls :: F) := by
 have hbl := bitsB_length l
 have hC : clsT ls fr (bitsB l) a = _ := rfl
 unfold clsT at hC
 have hsm := takeC_small hok ((bitsB l).drop a)
 have hle := takeC_le ls ((bitsB l).drop a)
 have hsy := takeC_sym hok (bs := (bitsB l).drop a)
 rw [List.length_drop, hbl, hl] at hle
 obtain ⟨T, hT⟩ : ∃ T, takeC ls ((bitsB l).drop a) = T := ⟨_, rfl⟩
 rw [hT] at hC hsm hle hsy
 obtain ⟨C, hCe⟩ : ∃ C, clsT ls fr (bitsB l) a = C := ⟨_, rfl⟩
 rw [show clsT ls fr (bitsB l) a = C from hCe]
 unfold clsT at hCe
 rw [hT] at hCe
 clear hC
 rw [hbl, hl] at hCe
 have hok2 := hok.2.1
 refine ret_of_X Tryz.func67 rfl rfl fun w0 hw0 => ?_
 simp only [argE, Nat.zero_add, Nat.reduceAdd]
 have st := st0
 refine X_seq (X_reg ?_)
 refine XR_wa (opl_new rfl) rfl rfl rfl ?_
 rintro _ hp ⟨p6, rfl, hnew⟩
 replace st := st.new hnew
 replace st : St B h0 hp ([pt p6 92 (clsV Kls.nil), rdG q A m c a, codeR p ls] ++ F) := st
 replace st := St.reF _ 3 st [1, 2, 0] (by decide)
 simp only [List.map_cons, List.map_nil, getR, List.cons_append, List.nil_append] at st
 refine XR_a (op_assign rfl) rfl rfl (XR_nil (X_seq (X_reg (XR_a (op_move rfl) rfl rfl (XR_a (op_move rfl) rfl rfl ?_)))))
 refine XR_wa (opl_call (ctake_spec st.here hok (hrB _ st.low) hl (by omega) ha) rfl (by kernel_rfl)) rfl rfl rfl ?_
 rintro _ hp ⟨rfl, st2⟩
 rw [hT] at st2 ⊢
 replace st := st.trans st2
 clear st2
 refine XR_a (op_move rfl) rfl rfl (XR_a (op_extract rfl rfl) rfl rfl (XR_a (op_extract rfl rfl) rfl rfl (XR_a (op_assign rfl) rfl rfl (XR_a (op_assign rfl) rfl rfl (XR_nil ?_)))))
 refine X_seq (X_seq (X_reg (XR_a (op_move rfl) rfl rfl ?_)))
 refine XR_a (op_neq rfl rfl) rfl rfl ?_
 refine XR_a (op_move rfl) rfl rfl ?_
 refine XR_if 23 rfl (fun h => ?_) (fun h => ?_)
 ·rw [if_pos (by omega)] at hCe
  subst hCe
  refine XR_no rfl rfl (XR_no rfl rfl (XR_no rfl rfl (XR_a (op_pick_t rfl rfl) rfl rfl (XR_nil (X_then rfl ?_)))))
  refine X_seq (X_reg (XR_a (op_move rfl) rfl rfl ?_))
  refine XR_a (op_build (ps := [(0, nV T.1)]) (cs := (clsV ⟨T.1, 0, 0⟩).toArray) rfl rfl) rfl rfl ?_
  refine XR_a (op_move rfl) rfl rfl ?_
  refine XR_wn (opl_store_whole (us := clsV ⟨T.1, 0, 0⟩) st 2 rfl rfl rfl rfl rfl (clsV_one _) rfl) rfl rfl fun _ hp st => ?_
  simp only [List.set_cons_zero, List.set_cons_succ] at st
  refine XR_a (op_assign rfl) rfl rfl (XR_nil ?_)
  refine X_ret (.cons (RV_agg (vs := clsV _) rfl rfl rfl (st.cells 2 rfl)) (.cons (.tmp rfl) .nil)) ?_
  refine ⟨rfl, ?_⟩
  exact St.keepF2 st
 ·refine XR_a (op_move rfl) rfl rfl (XR_a (op_move rfl) rfl rfl ?_)
  refine XR_a (op_lss rfl rfl) rfl rfl ?_
  refine XR_a (op_pick_f rfl rfl) rfl rfl (XR_nil ?_)
  refine X_if rfl (fun h => ?_) (fun h => ?_)
  ·rw [if_pos (by omega)] at hCe
   subst hCe
   refine X_seq (X_reg (XR_a (op_move rfl) rfl rfl ?_))
   refine XR_a (op_build (ps := [(0, nV T.1)]) (cs := (clsV ⟨T.1, 0, 0⟩).toArray) rfl rfl) rfl rfl ?_
   refine XR_a (op_move rfl) rfl rfl ?_
   refine XR_wn (opl_store_whole (us := clsV ⟨T.1, 0, 0⟩) st 2 rfl rfl rfl rfl rfl (clsV_one _) rfl) rfl rfl fun _ hp st => ?_
   simp only [List.set_cons_zero, List.set_cons_succ] at st
   refine XR_a (op_assign rfl) rfl rfl (XR_nil ?_)
   refine X_ret (.cons (RV_agg (vs := clsV _) rfl rfl rfl (st.cells 2 rfl)) (.cons (.tmp rfl) .nil)) ?_
   refine ⟨rfl, ?_⟩
   exact St.keepF2 st
  ·have hT0 : T.2.2 = 0 := by omega
   have hTl : T.1 < ls.length := (hsy hT0).1
   have hbc : bitsC (T.1 - fr) ≤ 13 := by unfold bitsC; split <;> omega
   rw [if_neg (by omega)] at hCe
   have hwd : wd 32 ((bitsC (T.1 - fr) : Nat) : Int) = bitsC (T.1 - fr) := wd_nat (by omega)
   refine X_skip (X_seq (X_reg (XR_a (op_move rfl) rfl rfl (XR_a (op_move rfl) rfl rfl ?_))))
   first | refine XR_a (op_subN rfl rfl (by omega) (by simp only [inK]; omega)) rfl rfl ?_ | refine XR_a (op_subI rfl rfl (by simp only [inK]; omega)) rfl rfl ?_ | refine XR_a (op_sub rfl rfl) rfl rfl ?_
   refine XR_wa (opl_call (sbase_yes (i := T.1 - fr) (by omega) (by omega) _) rfl (by kernel_rfl)) rfl rfl rfl ?_
   rintro _ _ ⟨rfl, rfl⟩
   refine XR_a (op_move rfl) rfl rfl (XR_a (op_extract rfl rfl) rfl rfl (XR_a (op_extract rfl rfl) rfl rfl (XR_a (op_extract rfl rfl) rfl rfl (XR_a (op_assign rfl) rfl rfl (XR_a (op_assign rfl) rfl rfl ?_)))))
   refine XR_a (op_assign rfl) rfl rfl (XR_nil (X_seq (X_reg (XR_a (op_move rfl) rfl rfl (XR_a (op_move rfl) rfl rfl ?_)))))
   refine XR_wa (opl_call (rtake_spec (k := ((bitsC (T.1 - fr) : Nat) : Int)) st.here (hrB _ st.low) hl (by omega) (by omega)) rfl (by kernel_rfl)) rfl rfl rfl ?_
   rintro _ hp ⟨rfl, st2⟩
   rw [hwd] at st2 ⊢
   replace st := st.trans st2
   clear st2
   refine XR_a (op_move rfl) rfl rfl (XR_a (op_extract rfl rfl) rfl rfl (XR_a (op_extract rfl rfl) rfl rfl (XR_a (op_assign rfl) rfl rfl (XR_a (op_assign rfl) rfl rfl (XR_nil ?_)))))
   refine X_seq (X_seq (X_reg (XR_a (op_move rfl) rfl rfl ?_)))
   first | refine XR_a (op_notd rfl) rfl rfl ?_ | refine XR_a (op_not rfl) rfl rfl ?_
   refine XR_nil ?_
   refine X_if rfl (fun h => ?_) (fun h => ?_)
   ·have hn : ¬ bitsC (T.1 - fr) ≤ 8 * m - (a + T.2.1) := by simpa using h
    rw [if_neg hn] at st
    rw [if_pos (by omega)] at hCe
    subst hCe
    refine X_seq (X_reg ?_)
    refine XR_a (op_build (ps := []) (cs := (clsV Kls.nil).toArray) rfl rfl) rfl rfl ?_
    refine XR_wn (opl_store_whole (us := clsV Kls.nil) st 2 rfl rfl rfl rfl rfl (clsV_one _) rfl) rfl rfl fun _ hp st => ?_
    simp only [List.set_cons_zero, List.set_cons_succ] at st
    refine XR_a (op_assign rfl) rfl rfl (XR_nil ?_)
    refine X_ret (.cons (RV_agg (vs := clsV _) rfl rfl rfl (st.cells 2 rfl)) (.cons (.tmp rfl) .nil)) ?_
    exact ⟨rfl, St.keepF2 st⟩
   ·have hn : bitsC (T.1 - fr) ≤ 8 * m - (a + T.2.1) := by simpa using h
    rw [if_pos hn] at st
    rw [if_neg (by omega)] at hCe
    subst hCe
    have hnl := numB_lt (bitsB l) (a + T.2.1) (bitsC (T.1 - fr))
    refine X_skip (X_seq (X_reg (XR_a (op_move rfl) rfl rfl (XR_a (op_move rfl) rfl rfl (XR_a (op_move rfl) rfl rfl ?_)))))
    refine XR_a (op_build (ps := [(0, nV T.1), (1, nV (bitsC (T.1 - fr))), (2, .int .u32 ((numB (bitsB l) (a + T.2.1) (bitsC (T.1 - fr)) : Nat) : Int))]) (cs := (clsV ⟨T.1, bitsC (T.1 - fr), (numB (bitsB l) (a + T.2.1) (bitsC (T.1 - fr)) : Nat)⟩).toArray) (by rw [if_pos hn]; rfl) rfl) rfl rfl ?_
    refine XR_wn (opl_store_whole (us := clsV ⟨T.1, bitsC (T.1 - fr), (numB (bitsB l) (a + T.2.1) (bitsC (T.1 - fr)) : Nat)⟩) st 2 rfl rfl rfl rfl rfl (clsV_one _) rfl) rfl rfl fun _ hp st => ?_
    simp only [List.set_cons_zero, List.set_cons_succ] at st
    refine XR_a (op_assign rfl) rfl rfl (XR_nil ?_)
    refine X_ret (.cons (RV_agg (vs := clsV _) rfl rfl rfl (st.cells 2 rfl)) (.cons (.tmp rfl) .nil)) ?_
    exact ⟨rfl, St.keepF2 st⟩
theorem btoken_spec {B p1 p2 q m c a : Nat} {A : Option Addr} {l : List UInt8} {la lb : List Nat} {F : List Res} {h0 : Heap} (st0 : St B h0 h0 (rdG q A m c a :: codeR p1 la :: codeR p2 lb :: F)) (oka : lensOK la) (okb : lensOK lb) (na : la.length = 273) (nb : lb.length = 30) (hrB : ∀ h', Low B h0 h' → Rd h' A (l.map byteV)) (hl : l.length = m) (hm : m ≤ 1073741824) (ha : a ≤ 8 * m) :
  Ret Tryz.prog 34 [.pointer (some ⟨q, 0, none⟩), .pointer (some ⟨p1, 0, none⟩), .pointer (some ⟨p2, 0, none⟩)] h0
   fun v h' => v = retVal [.agg (tokV (nextT la lb (bitsB l) a).1).toArray, .bool (!(nextT la lb (bitsB l) a).2.2.1), nV (nextT la lb (bitsB l) a).2.2.2] ∧ St B h0 h' (rdG q A m c (nextT la lb (bitsB l) a).2.1 :: codeR p1 la :: codeR p2 lb :: F) := by
 have hbl := bitsB_length l
 obtain ⟨N, hN⟩ : ∃ N, nextT la lb (bitsB l) a = N := ⟨_, rfl⟩
 have hC1 := clsT_num (fr := 257) (bs := bitsB l) (a := a) oka (by omega) (by omega)
 have hA1 := clsT_at (fr := 257) (bs := bitsB l) (a := a) oka (by omega)
 rw [hN]
 unfold nextT at hN
 obtain ⟨C, hC⟩ : ∃ C, clsT la 257 (bitsB l) a = C := ⟨_, rfl⟩
 rw [hC] at hN hC1 hA1
 have hC2 := clsT_num (fr := 0) (bs := bitsB l) (a := C.2.1) okb (by omega) (by omega)
 obtain ⟨D, hD⟩ : ∃ D, clsT lb 0 (bitsB l) C.2.1 = D := ⟨_, rfl⟩
 rw [hD] at hN hC2
 refine ret_of_X Tryz.func34 rfl rfl fun w0 hw0 => ?_
 simp only [argE, Nat.zero_add, Nat.reduceAdd]
 have st := st0
 refine X_seq (X_reg ?_)
 refine XR_wa (opl_new rfl) rfl rfl rfl ?_
 rintro _ hp ⟨p6, rfl, hnew⟩
 replace st := st.new hnew
 replace st : St B h0 hp ([pt p6 65 (tokV Tok.nil), rdG q A m c a, codeR p1 la, codeR p2 lb] ++ F) := st
 replace st := St.reF _ 4 st [1, 2, 3, 0] (by decide)
 simp only [List.map_cons, List.map_nil, getR, List.cons_append, List.nil_append] at st
 refine XR_a (op_assign rfl) rfl rfl (XR_a (op_assign rfl) rfl rfl (XR_nil (X_seq (X_reg (XR_a (op_move rfl) rfl rfl ?_)))))
 refine XR_a (op_move rfl) rfl rfl ?_
 refine XR_wa (opl_call (bclass_spec (fr := 257) st.here oka (fun h' hh => hrB h' (st.low.trans hh)) hl hm ha (by omega) (by omega)) rfl (by kernel_rfl)) rfl rfl rfl ?_
 rintro _ hp ⟨rfl, st2⟩
 rw [hC] at st2 ⊢
 replace st := st.trans st2
 clear st2
 refine XR_a (op_move rfl) rfl rfl (XR_a (op_extract rfl rfl) rfl rfl (XR_a (op_extract rfl rfl) rfl rfl ?_))
 refine XR_wa (opl_new rfl) rfl rfl rfl ?_
 rintro _ hp ⟨p9, rfl, hnew⟩
 replace st := st.new hnew
 replace st : St B h0 hp ([pt p9 92 (clsV Kls.nil), rdG q A m c C.2.1, codeR p1 la, codeR p2 lb, pt p6 65 (tokV Tok.nil)] ++ F) := st
 replace st := St.reF _ 5 st [1, 2, 3, 4, 0] (by decide)
 simp only [List.map_cons, List.map_nil, getR, List.cons_append, List.nil_append] at st
 refine XR_wn (opl_store_whole (us := clsV C.1) st 4 rfl rfl rfl rfl rfl (clsV_one _) rfl) rfl rfl fun _ hp st => ?_
 simp only [List.set_cons_zero, List.set_cons_succ] at st
 refine XR_a (op_assign rfl) rfl rfl (XR_nil (X_seq (X_seq (X_reg (XR_a (op_move rfl) rfl rfl ?_)))))
 refine XR_a (op_neq rfl rfl) rfl rfl ?_
 refine XR_a (op_move rfl) rfl rfl ?_
 refine XR_if 22 rfl (fun h => ?_) (fun h => ?_)
 ·rw [if_pos (by omega)] at hN
  subst hN
  refine XR_no rfl rfl (XR_no rfl rfl (XR_no rfl rfl (XR_a (op_pick_t rfl rfl) rfl rfl (XR_nil (X_then rfl ?_)))))
  refine X_seq (X_reg ?_)
  refine XR_a (op_build (ps := []) (cs := (tokV Tok.nil).toArray) rfl rfl) rfl rfl ?_
  refine XR_a (op_move rfl) rfl rfl ?_
  refine XR_wn (opl_store_whole (us := tokV Tok.nil) st 3 rfl rfl rfl rfl rfl (tokV_one _) rfl) rfl rfl fun _ hp st => ?_
  simp only [List.set_cons_zero, List.set_cons_succ] at st
  refine XR_a (op_assign rfl) rfl rfl (XR_a (op_assign rfl) rfl rfl (XR_nil ?_))
  refine X_ret (.cons (RV_agg (vs := tokV _) rfl rfl rfl (st.cells 3 rfl)) (.cons (.tmp rfl) (.cons (.tmp rfl) .nil))) ?_
  exact ⟨rfl, (St.reF [_, _, _, _, _] 5 st [3, 4, 0, 1, 2] (by decide)).tail.tail⟩
 ·first | refine XR_a (op_field0 rfl rfl) rfl rfl ?_ | refine XR_a (op_fieldn rfl rfl) rfl rfl ?_
  refine XR_a (op_ld (st.cell 4 (i := 0) rfl rfl) rfl rfl rfl) rfl rfl ?_
  refine XR_a (op_eql rfl rfl) rfl rfl ?_
  refine XR_a (op_pick_f rfl rfl) rfl rfl (XR_nil ?_)
  refine X_if rfl (fun h => ?_) (fun h => ?_)
  ·rw [if_pos (by omega)] at hN
   subst hN
   refine X_seq (X_reg ?_)
   refine XR_a (op_build (ps := []) (cs := (tokV Tok.nil).toArray) rfl rfl) rfl rfl ?_
   refine XR_a (op_move rfl) rfl rfl ?_
   refine XR_wn (opl_store_whole (us := tokV Tok.nil) st 3 rfl rfl rfl rfl rfl (tokV_one _) rfl) rfl rfl fun _ hp st => ?_
   simp only [List.set_cons_zero, List.set_cons_succ] at st
   refine XR_a (op_assign rfl) rfl rfl (XR_a (op_assign rfl) rfl rfl (XR_nil ?_))
   refine X_ret (.cons (RV_agg (vs := tokV _) rfl rfl rfl (st.cells 3 rfl)) (.cons (.tmp rfl) (.cons (.tmp rfl) .nil))) ?_
   exact ⟨rfl, (St.reF [_, _, _, _, _] 5 st [3, 4, 0, 1, 2] (by decide)).tail.tail⟩
  ·rw [if_neg (by omega)] at hN
   refine X_skip (X_seq (X_reg ?_))
   refine XR_a (op_ldA (vs := clsV C.1) (st.cells 4 rfl) rfl rfl rfl rfl) rfl rfl ?_
   refine XR_a (op_build (ps := [(0, .agg (clsV C.1).toArray)]) (cs := (syV ⟨C.1, Kls.nil, false⟩).toArray) rfl rfl) rfl rfl ?_
   refine XR_wa (opl_new rfl) rfl rfl rfl ?_
   rintro _ hp ⟨p11, rfl, hnew⟩
   replace st := st.new hnew
   replace st : St B h0 hp ([pt p11 94 (syV Sy.nil), rdG q A m c C.2.1, codeR p1 la, codeR p2 lb, pt p6 65 (tokV Tok.nil), pt p9 92 (clsV C.1)] ++ F) := st
   replace st := St.reF _ 6 st [1, 2, 3, 4, 5, 0] (by decide)
   simp only [List.map_cons, List.map_nil, getR, List.cons_append, List.nil_append] at st
   refine XR_wn (opl_store_whole (us := syV ⟨C.1, Kls.nil, false⟩) st 5 rfl rfl rfl rfl rfl (syV_one _) rfl) rfl rfl fun _ hp st => ?_
   simp only [List.set_cons_zero, List.set_cons_succ] at st
   refine XR_nil (X_seq (X_seq (X_reg ?_)))
   first | refine XR_a (op_field0 rfl rfl) rfl rfl ?_ | refine XR_a (op_fieldn rfl rfl) rfl rfl ?_
   refine XR_a (op_ld (st.cell 4 (i := 0) rfl rfl) rfl rfl rfl) rfl rfl ?_
   refine XR_a (op_gtr rfl rfl) rfl rfl ?_
   refine XR_nil ?_
   refine X_if rfl (fun h => ?_) (fun h => ?_)
   ·rw [if_pos (by omega)] at hN
    replace st := St.reF [_, _, _] 3 st [0, 2, 1] (by decide)
    simp only [List.map_cons, List.map_nil, getR, List.cons_append, List.nil_append] at st
    refine X_seq (X_seq (X_reg (XR_a (op_move rfl) rfl rfl (XR_a (op_move rfl) rfl rfl ?_))))
    refine XR_wa (opl_call (bclass_spec (fr := 0) st.here okb (fun h' hh => hrB h' (st.low.trans hh)) hl hm (by omega) (by omega) (by omega)) rfl (by kernel_rfl)) rfl rfl rfl ?_
    rintro _ hp ⟨rfl, st2⟩
    rw [hD] at st2 ⊢
    replace st := st.trans st2
    clear st2
    replace st := St.reF [_, _, _] 3 st [0, 2, 1] (by decide)
    simp only [List.map_cons, List.map_nil, getR, List.cons_append, List.nil_append] at st
    refine XR_a (op_move rfl) rfl rfl (XR_a (op_extract rfl rfl) rfl rfl (XR_a (op_extract rfl rfl) rfl rfl ?_))
    first | refine XR_a (op_field0 rfl rfl) rfl rfl ?_ | refine XR_a (op_fieldn rfl rfl) rfl rfl ?_
    refine XR_wn (opl_store_pts (us := clsV D.1) st 5 rfl rfl rfl rfl rfl (clsV_one _) (by show 3 + 3 ≤ 7; omega)) rfl rfl fun _ hp st => ?_
    simp only [List.set_cons_zero, List.set_cons_succ] at st
    replace st : St B h0 hp (rdG q A m c D.2.1 :: codeR p1 la :: codeR p2 lb :: pt p6 65 (tokV Tok.nil) :: pt p9 92 (clsV C.1) :: pt p11 94 (syV ⟨C.1, D.1, false⟩) :: F) := st
    refine XR_a (op_assign rfl) rfl rfl (XR_nil (X_seq (X_reg (XR_a (op_move rfl) rfl rfl ?_))))
    refine XR_a (op_neq rfl rfl) rfl rfl ?_
    refine XR_nil ?_
    refine X_if rfl (fun h => ?_) (fun h => ?_)
    ·rw [if_pos (by omega)] at hN
     subst hN
     refine X_seq (X_reg ?_)
     refine XR_a (op_build (ps := []) (cs := (tokV Tok.nil).toArray) rfl rfl) rfl rfl ?_
     refine XR_a (op_move rfl) rfl rfl ?_
     refine XR_wn (opl_store_whole (us := tokV Tok.nil) st 3 rfl rfl rfl rfl rfl (tokV_one _) rfl) rfl rfl fun _ hp st => ?_
     simp only [List.set_cons_zero, List.set_cons_succ] at st
     refine XR_a (op_assign rfl) rfl rfl (XR_a (op_assign rfl) rfl rfl (XR_nil ?_))
     refine X_ret (.cons (RV_agg (vs := tokV _) rfl rfl rfl (st.cells 3 rfl)) (.cons (.tmp rfl) (.cons (.tmp rfl) .nil))) ?_
     exact ⟨rfl, (St.reF [_, _, _, _, _, _] 6 st [3, 4, 5, 0, 1, 2] (by decide)).tail.tail.tail⟩
    ·rw [if_neg (by omega)] at hN
     obtain ⟨J, hJ⟩ : ∃ J, joinT ⟨C.1, D.1, true⟩ = J := ⟨_, rfl⟩
     rw [hJ] at hN
     refine X_skip (X_reg ?_)
     first | refine XR_a (op_field0 rfl rfl) rfl rfl ?_ | refine XR_a (op_fieldn rfl rfl) rfl rfl ?_
     refine XR_wn (opl_store_pt st 5 rfl rfl rfl rfl rfl (rfl)) rfl rfl fun _ hp st => ?_
     simp only [List.set_cons_zero, List.set_cons_succ] at st
     refine XR_nil (X_seq (X_reg ?_))
     refine XR_a (op_ldA (vs := syV ⟨C.1, D.1, true⟩) (st.cells 5 rfl) rfl rfl rfl rfl) rfl rfl ?_
     refine XR_wa (opl_call (sjoin_spec (r := ⟨C.1, D.1, true⟩) ⟨hC1.2.2.1, hC1.2.2.2⟩ ⟨hC2.2.2.1, hC2.2.2.2⟩ _) rfl (by kernel_rfl)) rfl rfl rfl ?_
     rintro _ hp ⟨rfl, hx5⟩
     replace st := st.ext hx5
     rw [hJ]
     refine XR_a (op_move rfl) rfl rfl (XR_a (op_extract rfl rfl) rfl rfl (XR_a (op_extract rfl rfl) rfl rfl ?_))
     refine XR_wa (opl_new rfl) rfl rfl rfl ?_
     rintro _ hp ⟨p12, rfl, hnew⟩
     replace st := st.new hnew
     replace st := St.reF [_, _, _, _, _, _, _] 7 st [1, 2, 3, 4, 0, 5, 6] (by decide)
     simp only [List.map_cons, List.map_nil, getR, List.cons_append, List.nil_append] at st
     refine XR_wn (opl_store_whole (us := tokV J.1) st 4 rfl rfl rfl rfl rfl (tokV_one _) rfl) rfl rfl fun _ hp st => ?_
     simp only [List.set_cons_zero, List.set_cons_succ] at st
     refine XR_a (op_assign rfl) rfl rfl (XR_nil (X_seq (X_seq (X_reg (XR_a (op_move rfl) rfl rfl ?_)))))
     first | refine XR_a (op_notd rfl) rfl rfl ?_ | refine XR_a (op_not rfl) rfl rfl ?_
     refine XR_nil ?_
     refine X_cond rfl (fun h => ?_) (fun h => ?_)
     ·rw [if_neg (by simpa using h)] at hN
      subst hN
      refine X_seq (X_reg ?_)
      refine XR_a (op_build (ps := []) (cs := (tokV Tok.nil).toArray) rfl rfl) rfl rfl ?_
      refine XR_wn (opl_store_whole (us := tokV Tok.nil) st 3 rfl rfl rfl rfl rfl (tokV_one _) rfl) rfl rfl fun _ hp st => ?_
      simp only [List.set_cons_zero, List.set_cons_succ] at st
      refine XR_a (op_assign rfl) rfl rfl (XR_a (op_assign rfl) rfl rfl (XR_nil ?_))
      refine X_ret (.cons (RV_agg (vs := tokV _) rfl rfl rfl (st.cells 3 rfl)) (.cons (.tmp rfl) (.cons (.tmp rfl) .nil))) ?_
      exact ⟨rfl, (St.reF [_, _, _, _, _, _, _] 7 st [3, 4, 5, 6, 0, 1, 2] (by decide)).tail.tail.tail.tail⟩
     ·rw [if_pos (by simpa using h)] at hN
      subst hN
      refine X_skip (X_seq (X_reg ?_))
      refine XR_a (op_ldA (vs := tokV J.1) (st.cells 4 rfl) rfl rfl rfl rfl) rfl rfl ?_
      refine XR_wn (opl_store_whole (us := tokV J.1) st 3 rfl rfl rfl rfl rfl (tokV_one _) rfl) rfl rfl fun _ hp st => ?_
      simp only [List.set_cons_zero, List.set_cons_succ] at st
      refine XR_a (op_assign rfl) rfl rfl (XR_a (op_assign rfl) rfl rfl (XR_nil ?_))
      refine X_ret (.cons (RV_agg (vs := tokV _) rfl rfl rfl (st.cells 3 rfl)) (.cons (.tmp rfl) (.cons (.tmp rfl) .nil))) ?_
      exact ⟨rfl, (St.reF [_, _, _, _, _, _, _] 7 st [3, 4, 5, 6, 0, 1, 2] (by decide)).tail.tail.tail.tail⟩
   ·rw [if_neg (by omega)] at hN
    obtain ⟨J, hJ⟩ : ∃ J, joinT ⟨C.1, Kls.nil, false⟩ = J := ⟨_, rfl⟩
    rw [hJ] at hN
    refine X_skip (X_seq (X_reg ?_))
    refine XR_a (op_ldA (vs := syV ⟨C.1, Kls.nil, false⟩) (st.cells 5 rfl) rfl rfl rfl rfl) rfl rfl ?_
    refine XR_wa (opl_call (sjoin_spec (r := ⟨C.1, Kls.nil, false⟩) ⟨hC1.2.2.1, hC1.2.2.2⟩ ⟨Int.le_refl 0, by show (0 : Int) < 4294967296; omega⟩ _) rfl (by kernel_rfl)) rfl rfl rfl ?_
    rintro _ hp ⟨rfl, hx5⟩
    replace st := st.ext hx5
    rw [hJ]
    refine XR_a (op_move rfl) rfl rfl (XR_a (op_extract rfl rfl) rfl rfl (XR_a (op_extract rfl rfl) rfl rfl ?_))
    refine XR_wa (opl_new rfl) rfl rfl rfl ?_
    rintro _ hp ⟨p12, rfl, hnew⟩
    replace st := st.new hnew
    replace st := St.reF [_, _, _, _, _, _, _] 7 st [1, 2, 3, 4, 0, 5, 6] (by decide)
    simp only [List.map_cons, List.map_nil, getR, List.cons_append, List.nil_append] at st
    refine XR_wn (opl_store_whole (us := tokV J.1) st 4 rfl rfl rfl rfl rfl (tokV_one _) rfl) rfl rfl fun _ hp st => ?_
    simp only [List.set_cons_zero, List.set_cons_succ] at st
    refine XR_a (op_assign rfl) rfl rfl (XR_nil (X_seq (X_seq (X_reg (XR_a (op_move rfl) rfl rfl ?_)))))
    first | refine XR_a (op_notd rfl) rfl rfl ?_ | refine XR_a (op_not rfl) rfl rfl ?_
    refine XR_nil ?_
    refine X_cond rfl (fun h => ?_) (fun h => ?_)
    ·rw [if_neg (by simpa using h)] at hN
     subst hN
     refine X_seq (X_reg ?_)
     refine XR_a (op_build (ps := []) (cs := (tokV Tok.nil).toArray) rfl rfl) rfl rfl ?_
     refine XR_wn (opl_store_whole (us := tokV Tok.nil) st 3 rfl rfl rfl rfl rfl (tokV_one _) rfl) rfl rfl fun _ hp st => ?_
     simp only [List.set_cons_zero, List.set_cons_succ] at st
     refine XR_a (op_assign rfl) rfl rfl (XR_a (op_assign rfl) rfl rfl (XR_nil ?_))
     refine X_ret (.cons (RV_agg (vs := tokV _) rfl rfl rfl (st.cells 3 rfl)) (.cons (.tmp rfl) (.cons (.tmp rfl) .nil))) ?_
     exact ⟨rfl, (St.reF [_, _, _, _, _, _, _] 7 st [3, 4, 5, 6, 0, 1, 2] (by decide)).tail.tail.tail.tail⟩
    ·rw [if_pos (by simpa using h)] at hN
     subst hN
     refine X_skip (X_seq (X_reg ?_))
     refine XR_a (op_ldA (vs := tokV J.1) (st.cells 4 rfl) rfl rfl rfl rfl) rfl rfl ?_
     refine XR_wn (opl_store_whole (us := tokV J.1) st 3 rfl rfl rfl rfl rfl (tokV_one _) rfl) rfl rfl fun _ hp st => ?_
     simp only [List.set_cons_zero, List.set_cons_succ] at st
     refine XR_a (op_assign rfl) rfl rfl (XR_a (op_assign rfl) rfl rfl (XR_nil ?_))
     refine X_ret (.cons (RV_agg (vs := tokV _) rfl rfl rfl (st.cells 3 rfl)) (.cons (.tmp rfl) (.cons (.tmp rfl) .nil))) ?_
     exact ⟨rfl, (St.reF [_, _, _, _, _, _, _] 7 st [3, 4, 5, 6, 0, 1, 2] (by decide)).tail.tail.tail.tail⟩
theorem bcodes_spec {B q m c a : Nat} {A : Option Addr} {l : List UInt8} {F : List Res} {h0 : Heap} (st0 : St B h0 h0 (rdG q A m c a :: F)) (hrB : ∀ h', Low B h0 h' → Rd h' A (l.map byteV)) (hl : l.length = m) (hm : m ≤ 1073741824) (ha : a ≤ 8 * m) :
  Ret Tryz.prog 33 [.pointer (some ⟨q, 0, none⟩)] h0 fun v h' => ∃ w1 w2 a', v = retVal [w1, w2, nV (codesT (bitsB l) a).1] ∧ a' ≤ 8 * m ∧ St B h0 h' (rdG q A m c a' :: F) ∧
   ((codesT (bitsB l) a).1 = 0 → a' = (codesT (bitsB l) a).2.2.2 ∧ ∃ p1 p2, w1 = .pointer (some ⟨p1, 0, none⟩) ∧ w2 = .pointer (some ⟨p2, 0, none⟩) ∧ St B h0 h' (rdG q A m c a' :: codeR p1 (codesT (bitsB l) a).2.1 :: codeR p2 (codesT (bitsB l) a).2.2.1 :: F)) := by
 obtain ⟨N, hN⟩ : ∃ N, codesT (bitsB l) a = N := ⟨_, rfl⟩
 rw [hN]
 unfold codesT at hN
 obtain ⟨X, hX⟩ : ∃ X, takeR (bitsB l) a (okR (bitsB l) a) = X := ⟨_, rfl⟩
 rw [hX] at hN
 obtain ⟨Y, hY⟩ : ∃ Y, takeR (bitsB l) X.2.1 (okR (bitsB l) X.2.1) = Y := ⟨_, rfl⟩
 rw [hY] at hN
 have hmn : ∀ z : List Nat, z.map nV = (castI z).map iV := fun z => by unfold castI; rw [List.map_map]; rfl
 refine ret_of_X Tryz.func33 rfl rfl fun w0 hw0 => ?_
 simp only [argE, Nat.zero_add, Nat.reduceAdd]
 have st := st0
 refine X_seq (X_reg (XR_a (op_assign rfl) rfl rfl (XR_a (op_assign rfl) rfl rfl (XR_a (op_assign rfl) rfl rfl (XR_nil ?_)))))
 refine X_seq (X_reg (XR_a (op_move rfl) rfl rfl ?_))
 refine XR_wa (opl_call (rtake_runs st.here (fun h' hh => hrB h' (st.low.trans hh)) hl hm ha) rfl (by kernel_rfl)) rfl rfl rfl ?_
 rintro _ hp1 ⟨w1, a1, rfl, ha1, hat, st⟩
 rw [hX] at hat st ⊢
 obtain ⟨A1, n1, c1, rfl, hl1, _⟩ := st.row 0 rfl
 rw [List.length_map, Nat.mul_one] at hl1
 refine XR_a (op_move rfl) rfl rfl (XR_a (op_extract rfl rfl) rfl rfl (XR_a (op_extract rfl rfl) rfl rfl (XR_a (op_assign rfl) rfl rfl (XR_a (op_assign rfl) rfl rfl (XR_nil ?_)))))
 refine X_seq (X_seq (X_reg (XR_a (op_move rfl) rfl rfl ?_)))
 refine XR_a (op_neq rfl rfl) rfl rfl ?_
 refine XR_nil ?_
 refine X_if rfl (fun h => ?_) (fun h => ?_)
 ·rw [if_pos (by omega)] at hN
  subst hN
  refine X_seq (X_reg (XR_a (op_move rfl) rfl rfl (XR_a (op_assign rfl) rfl rfl (XR_a (op_assign rfl) rfl rfl (XR_a (op_assign rfl) rfl rfl ?_)))))
  refine XR_nil ?_
  refine X_ret (.cons (.tmp rfl) (.cons (.tmp rfl) (.cons (.tmp rfl) .nil))) ?_
  exact ⟨_, _, a1, rfl, ha1, st.tail, fun h9 => absurd h9 (by simp only; omega)⟩
 ·rw [if_neg (by omega)] at hN
  obtain rfl := hat (by omega)
  replace st := st.perm (List.Perm.swap _ _ _)
  refine X_skip (X_seq (X_reg (XR_a (op_move rfl) rfl rfl ?_)))
  refine XR_wa (opl_call (rtake_runs st.here (fun h' hh => hrB h' (st.low.trans hh)) hl hm ha1) rfl (by kernel_rfl)) rfl rfl rfl ?_
  rintro _ hp2 ⟨w2, a2, rfl, ha2, hat2, st2⟩
  rw [hY] at hat2 st2 ⊢
  replace st := st.trans st2
  clear st2
  obtain ⟨A2, n2, c2, rfl, hl2, _⟩ := st.row 0 rfl
  rw [List.length_map, Nat.mul_one] at hl2
  refine XR_a (op_move rfl) rfl rfl (XR_a (op_extract rfl rfl) rfl rfl (XR_a (op_extract rfl rfl) rfl rfl (XR_a (op_assign rfl) rfl rfl (XR_a (op_assign rfl) rfl rfl (XR_nil ?_)))))
  refine X_seq (X_block (X_seq (X_reg (XR_a (op_move rfl) rfl rfl ?_))))
  refine XR_a (op_neq rfl rfl) rfl rfl ?_
  refine XR_a (op_assign rfl) rfl rfl (XR_nil ?_)
  refine X_if rfl (fun h => ?_) (fun h => ?_)
  ·rw [if_pos (by omega)] at hN
   subst hN
   refine X_seq (X_reg (XR_a (op_move rfl) rfl rfl (XR_a (op_assign rfl) rfl rfl (XR_a (op_assign rfl) rfl rfl (XR_a (op_assign rfl) rfl rfl ?_)))))
   refine XR_nil ?_
   refine X_ret (.cons (.tmp rfl) (.cons (.tmp rfl) (.cons (.tmp rfl) .nil))) ?_
   exact ⟨_, _, a2, rfl, ha2, (St.reF [_, _, _] 3 st [0, 2, 1] (by decide)).tail.tail, fun h9 => absurd h9 (by simp only; omega)⟩
  ·rw [if_neg (by omega)] at hN
   obtain rfl := hat2 (by omega)
   refine X_seq (X_reg (XR_a (op_move rfl) rfl rfl ?_))
   refine XR_a (op_len rfl rfl rfl) rfl rfl ?_
   refine XR_a (op_neq rfl rfl) rfl rfl ?_
   refine XR_a (op_move rfl) rfl rfl ?_
   refine XR_if 28 rfl (fun h => ?_) (fun h => ?_)
   ·rw [if_pos (by omega)] at hN
    subst hN
    refine XR_no rfl rfl (XR_no rfl rfl (XR_no rfl rfl (XR_a (op_pick_t rfl rfl) rfl rfl (XR_a (op_assign rfl) rfl rfl (XR_nil ?_)))))
    refine X_then rfl (X_seq (X_reg (XR_a (op_assign rfl) rfl rfl (XR_a (op_assign rfl) rfl rfl (XR_a (op_assign rfl) rfl rfl ?_)))))
    refine XR_nil ?_
    refine X_ret (.cons (.tmp rfl) (.cons (.tmp rfl) (.cons (.tmp rfl) .nil))) ?_
    exact ⟨_, _, _, rfl, ha2, (St.reF [_, _, _] 3 st [0, 2, 1] (by decide)).tail.tail, fun h9 => absurd h9 (by decide)⟩
   ·refine XR_a (op_move rfl) rfl rfl ?_
    refine XR_a (op_len rfl rfl rfl) rfl rfl ?_
    refine XR_a (op_neq rfl rfl) rfl rfl ?_
    refine XR_a (op_pick_f rfl rfl) rfl rfl (XR_a (op_assign rfl) rfl rfl (XR_nil ?_))
    refine X_if rfl (fun h => ?_) (fun h => ?_)
    ·rw [if_pos (by omega)] at hN
     subst hN
     refine X_seq (X_reg (XR_a (op_assign rfl) rfl rfl (XR_a (op_assign rfl) rfl rfl (XR_a (op_assign rfl) rfl rfl (XR_nil ?_)))))
     refine X_ret (.cons (.tmp rfl) (.cons (.tmp rfl) (.cons (.tmp rfl) .nil))) ?_
     exact ⟨_, _, _, rfl, ha2, (St.reF [_, _, _] 3 st [0, 2, 1] (by decide)).tail.tail, fun h9 => absurd h9 (by decide)⟩
    ·rw [if_neg (by omega)] at hN
     refine X_skip (X_blk (X_seq (X_seq (X_reg (XR_a (op_move rfl) rfl rfl ?_)))))
     refine XR_wa (opl_call (cnew_spec (li := castI X.1) (by rw [← hmn]; exact (st.rdS 2 rfl).2) (by unfold castI; rw [List.length_map]; exact hl1) (by omega)) rfl (by kernel_rfl)) rfl rfl rfl ?_
     rintro _ hp3 ⟨w3, rfl, hx3, hy3, hz3⟩
     rw [castI_toNat] at hy3
     refine XR_a (op_move rfl) rfl rfl (XR_a (op_extract rfl rfl) rfl rfl (XR_a (op_extract rfl rfl) rfl rfl (XR_a (op_assign rfl) rfl rfl (XR_a (op_assign rfl) rfl rfl (XR_nil ?_)))))
     refine X_seq (X_reg (XR_a (op_move rfl) rfl rfl ?_))
     refine XR_a (op_neq rfl rfl) rfl rfl ?_
     refine XR_nil ?_
     refine X_if rfl (fun h => ?_) (fun h => ?_)
     ·have hR1 : ¬ rightC (castI X.1) := fun hh => absurd (errC_zero.2 hh) h
      rw [if_pos (.inl hR1)] at hN
      subst hN
      replace st := st.ext hx3
      refine X_seq (X_reg (XR_a (op_move rfl) rfl rfl (XR_a (op_assign rfl) rfl rfl (XR_a (op_assign rfl) rfl rfl (XR_a (op_assign rfl) rfl rfl ?_)))))
      refine XR_nil ?_
      refine X_ret (.cons (.tmp rfl) (.cons (.tmp rfl) (.cons (.tmp rfl) .nil))) ?_
      rw [show errC (castI X.1) = 13 by unfold errC; rw [if_neg hR1]]
      exact ⟨_, _, _, rfl, ha2, (St.reF [_, _, _] 3 st [0, 2, 1] (by decide)).tail.tail, fun h9 => absurd h9 (by decide)⟩
     ·have hR1 : rightC (castI X.1) := errC_zero.1 (Classical.not_not.1 h)
      obtain ⟨p1, rfl, st3⟩ := hy3 hR1
      have stx := st.ext hx3
      replace st := st.join st3
      simp only [List.cons_append, List.nil_append] at st
      refine X_skip (X_seq (X_reg (XR_a (op_move rfl) rfl rfl ?_)))
      refine XR_wa (opl_call (cnew_spec (li := castI Y.1) (by rw [← hmn]; exact (st.rdS 1 rfl).2) (by unfold castI; rw [List.length_map]; exact hl2) (by omega)) rfl (by kernel_rfl)) rfl rfl rfl ?_
      rintro _ hp4 ⟨w4, rfl, hx4, hy4, hz4⟩
      rw [castI_toNat] at hy4
      refine XR_a (op_move rfl) rfl rfl (XR_a (op_extract rfl rfl) rfl rfl (XR_a (op_extract rfl rfl) rfl rfl (XR_a (op_assign rfl) rfl rfl (XR_a (op_assign rfl) rfl rfl (XR_nil ?_)))))
      refine X_seq (X_reg (XR_a (op_move rfl) rfl rfl (XR_a (op_move rfl) rfl rfl (XR_a (op_move rfl) rfl rfl (XR_a (op_assign rfl) rfl rfl ?_)))))
      refine XR_a (op_assign rfl) rfl rfl (XR_a (op_assign rfl) rfl rfl (XR_nil ?_))
      refine X_ret (.cons (.tmp rfl) (.cons (.tmp rfl) (.cons (.tmp rfl) .nil))) ?_
      by_cases hR2 : rightC (castI Y.1)
      ·rw [if_neg (by rintro (h | h) <;> exact h (by assumption))] at hN
       subst hN
       obtain ⟨p2, rfl, st4⟩ := hy4 hR2
       have sty := (St.reF [_, _, _] 3 (stx.ext hx4) [0, 2, 1] (by decide)).tail.tail
       replace st := st.join st4
       simp only [List.cons_append, List.nil_append] at st
       replace st := (St.reF [_, _, _, _, _] 5 st [2, 4, 3, 1, 0] (by decide)).tail.tail
       rw [show errC (castI Y.1) = 0 by unfold errC; rw [if_pos hR2]]
       exact ⟨_, _, _, rfl, ha2, sty, fun _ => ⟨rfl, p1, p2, rfl, rfl, st⟩⟩
      ·rw [if_pos (.inr hR2)] at hN
       subst hN
       rw [show errC (castI Y.1) = 13 by unfold errC; rw [if_neg hR2]]
       exact ⟨_, _, _, rfl, ha2, (St.reF [_, _, _] 3 (stx.ext hx4) [0, 2, 1] (by decide)).tail.tail, fun h9 => absurd h9 (by decide)⟩
theorem btake_spec {B q m c : Nat} {most : Int} {A : Option Addr} {l : List UInt8} {F : List Res} {h0 : Heap} (st0 : St B h0 h0 (rdG q A m c 0 :: F)) (hrB : ∀ h', Low B h0 h' → Rd h' A (l.map byteV)) (hl : l.length = m) (hm : m ≤ 1048576) (hmo : inK .i64 most) :
  Ret Tryz.prog 11 [.pointer (some ⟨q, 0, none⟩), .int .i64 most] h0 fun v h' => ∃ w a', v = retVal [w, nV (blockT (bitsB l) most).2.2.2] ∧ a' ≤ 8 * m ∧ ((blockT (bitsB l) most).2.2.2 = 0 → a' = (blockT (bitsB l) most).2.2.1) ∧
   St B h0 h' (rdG q A m c a' :: row 65 3 w ((blockT (bitsB l) most).1.flatMap tokV) :: F) := by
 have hbl := bitsB_length l
 have hok := codesT_ok (bs := bitsB l) (a := 0)
 obtain ⟨N, hN⟩ : ∃ N, blockT (bitsB l) most = N := ⟨_, rfl⟩
 rw [hN]
 unfold blockT at hN
 obtain ⟨K, hK⟩ : ∃ K, codesT (bitsB l) 0 = K := ⟨_, rfl⟩
 rw [hK] at hN hok
 have bad : ∀ e, N = ([], 0, 0, e) → e ≠ 0 → ∀ h' a', a' ≤ 8 * m → St B h0 h' (rdG q A m c a' :: F) → ∃ w a', retVal [.slice none 0 0, nV e] = retVal [w, nV N.2.2.2] ∧ a' ≤ 8 * m ∧ (N.2.2.2 = 0 → a' = N.2.2.1) ∧ St B h0 h' (rdG q A m c a' :: row 65 3 w (N.1.flatMap tokV) :: F) := by
  intro e he h0 h' a' ha' st
  subst he
  exact ⟨_, a', rfl, ha', fun h => absurd h h0, (st.nilrow 65 3).perm (List.Perm.swap _ _ _)⟩
 refine ret_of_X Tryz.func11 rfl rfl fun w0 hw0 => ?_
 simp only [argE, Nat.zero_add, Nat.reduceAdd]
 have st := st0
 refine X_seq (X_reg (XR_a (op_assign rfl) rfl rfl (XR_a (op_assign rfl) rfl rfl (XR_nil (X_seq ?_)))))
 refine X_seq (X_reg (XR_a (op_move rfl) rfl rfl ?_))
 refine XR_a (op_ptr_nil rfl rfl rfl) rfl rfl ?_
 refine XR_nil (X_else rfl (X_skip (X_seq (X_reg (XR_a (op_move rfl) rfl rfl ?_)))))
 refine XR_wa (opl_call (bcodes_spec st.here (fun h' hh => hrB h' (st.low.trans hh)) hl (by omega) (by omega)) rfl (by kernel_rfl)) rfl rfl rfl ?_
 rintro _ hp1 ⟨w1, w2, a1, rfl, ha1, st, hk⟩
 rw [hK] at hk ⊢
 refine XR_a (op_move rfl) rfl rfl (XR_a (op_extract rfl rfl) rfl rfl (XR_a (op_extract rfl rfl) rfl rfl (XR_a (op_extract rfl rfl) rfl rfl (XR_a (op_assign rfl) rfl rfl (XR_a (op_assign rfl) rfl rfl ?_)))))
 refine XR_a (op_assign rfl) rfl rfl (XR_nil (X_seq (X_seq (X_reg (XR_a (op_move rfl) rfl rfl ?_)))))
 refine XR_a (op_neq rfl rfl) rfl rfl ?_
 refine XR_nil ?_
 refine X_if rfl (fun h => ?_) (fun h => ?_)
 ·rw [if_pos (by omega)] at hN
  refine X_seq (X_reg (XR_a (op_move rfl) rfl rfl (XR_a (op_assign rfl) rfl rfl (XR_a (op_assign rfl) rfl rfl (XR_nil ?_)))))
  refine X_ret (.cons (.tmp rfl) (.cons (.tmp rfl) .nil)) ?_
  exact bad _ hN.symm (by omega) _ _ ha1 st
 ·have hK0 : K.1 = 0 := by omega
  rw [if_neg (by omega)] at hN
  obtain ⟨rfl, p1, p2, rfl, rfl, st⟩ := hk hK0
  obtain ⟨oka, okb, na, nb⟩ := hok hK0
  clear hk hok
  refine X_skip (X_seq (X_reg (XR_a (op_assign rfl) rfl rfl (XR_nil (X_seq ?_)))))
  refine X_reg (XR_a (op_assign rfl) rfl rfl (XR_nil (X_block ?_)))
  replace st := (st.nilrow 65 3)
  replace st := St.reF [_, _, _, _] 4 st [1, 2, 3, 0] (by decide)
  simp only [List.map_cons, List.map_nil, getR, List.cons_append, List.nil_append] at st
  refine X_loop (fun s => s.1) (fun s => [(0, .pointer (some ⟨q, 0, none⟩)), (1, .int .i64 most), (6, .pointer (some ⟨p1, 0, none⟩)), (7, .pointer (some ⟨p2, 0, none⟩)), (9, s.2.2.2.2), (10, nV s.2.2.1)])
   (fun (s : Nat × Nat × Nat × List Tok × Value) hp => goB K.2.1 K.2.2.1 (bitsB l) most s.1 s.2.1 s.2.2.1 s.2.2.2.1 = N ∧ 8 * m + 1 ≤ s.2.1 + s.1 ∧ s.2.1 ≤ 8 * m ∧ s.2.2.1 ≤ 258 * s.2.1 ∧ s.2.2.2.1.length ≤ s.2.1 ∧ (0 < s.2.2.1 → (s.2.2.1 : Int) ≤ most) ∧
    St B h0 hp (rdG q A m c s.2.1 :: codeR p1 K.2.1 :: codeR p2 K.2.2.1 :: row 65 3 s.2.2.2.2 (s.2.2.2.1.flatMap tokV) :: F))
   ((bitsB l).length + 1, K.2.2.2, 0, [], _) (.cons rfl (.cons rfl (.cons rfl (.cons rfl (.cons rfl (.cons rfl (.nil _))))))) ⟨hN, by simp only; omega, ha1, Nat.zero_le _, Nat.zero_le _, fun h => absurd h (by simp), st⟩ ?_
  clear st
  rintro ⟨f, a, sz, acc, v⟩ hp ⟨hg, hf, haa, hsz, hacl, hmz, st⟩
  simp only at hg hf haa hsz hacl hmz st ⊢
  obtain ⟨f, rfl⟩ : ∃ g, f = g + 1 := ⟨f - 1, by omega⟩
  have hna := nextT_at (la := K.2.1) (lb := K.2.2.1) (bs := bitsB l) (a := a) oka okb (by omega)
  rw [goB] at hg
  refine X_block (X_seq (X_reg (XR_a (op_move rfl) rfl rfl (XR_a (op_move rfl) rfl rfl (XR_a (op_move rfl) rfl rfl ?_)))))
  refine XR_wa (opl_call (btoken_spec st.here oka okb na nb (fun h' hh => hrB h' (st.low.trans hh)) hl (by omega) haa) rfl (by kernel_rfl)) rfl rfl rfl ?_
  rintro _ hp2 ⟨rfl, st2⟩
  replace st := st.trans st2
  clear st2
  obtain ⟨T, hT⟩ : ∃ T, nextT K.2.1 K.2.2.1 (bitsB l) a = T := ⟨_, rfl⟩
  rw [hT] at hg hna st ⊢
  obtain ⟨A9, n9, c9, rfl, hl9, _⟩ := st.row 3 rfl
  refine XR_a (op_move rfl) rfl rfl (XR_a (op_extract rfl rfl) rfl rfl (XR_a (op_extract rfl rfl) rfl rfl (XR_a (op_extract rfl rfl) rfl rfl ?_)))
  refine XR_wa (opl_new rfl) rfl rfl rfl ?_
  rintro _ hp ⟨p11, rfl, hnew⟩
  replace st := st.new hnew
  refine XR_wn (opl_store_whole (us := tokV T.1) st 0 rfl rfl rfl rfl rfl (tokV_one _) rfl) rfl rfl fun _ hp st => ?_
  simp only [List.set_cons_zero, List.set_cons_succ] at st
  refine XR_a (op_assign rfl) rfl rfl (XR_a (op_assign rfl) rfl rfl (XR_nil (X_seq (X_reg ?_))))
  first | refine XR_a (op_field0 rfl rfl) rfl rfl ?_ | refine XR_a (op_fieldn rfl rfl) rfl rfl ?_
  refine XR_a (op_ld (st.cell 0 (i := 1) rfl rfl) rfl rfl rfl) rfl rfl ?_
  refine XR_a (op_max2 rfl rfl) rfl rfl ?_
  refine XR_a (op_assign rfl) rfl rfl (XR_nil (X_seq (X_block (X_seq (X_reg ?_)))))
  refine XR_a (op_move rfl) rfl rfl ?_
  refine XR_a (op_neq rfl rfl) rfl rfl ?_
  refine XR_a (op_assign rfl) rfl rfl (XR_nil ?_)
  refine X_if rfl (fun h => ?_) (fun h => ?_)
  ·have ho : T.2.2.1 = true := by
    cases hh : T.2.2.1 with
    | true => rfl
    | false => have := (hna.2.2 hh).2.1; omega
   rw [if_pos ho, if_pos (by omega)] at hg
   have st' := (St.reF [_, _, _, _, _] 5 st [0, 2, 3, 4, 1] (by decide)).tail.tail.tail.tail
   refine X_seq (X_reg (XR_a (op_move rfl) rfl rfl (XR_a (op_assign rfl) rfl rfl (XR_a (op_assign rfl) rfl rfl (XR_nil ?_)))))
   refine X_ret (.cons (.tmp rfl) (.cons (.tmp rfl) .nil)) ?_
   exact bad _ hg.symm (by omega) _ _ (by omega) st'
  ·refine X_seq (X_reg (XR_a (op_move rfl) rfl rfl ?_))
   first | refine XR_a (op_notd rfl) rfl rfl ?_ | refine XR_a (op_not rfl) rfl rfl ?_
   refine XR_a (op_assign rfl) rfl rfl (XR_nil ?_)
   refine X_cond rfl (fun h => ?_) (fun h => ?_)
   ·have ho : T.2.2.1 = true := by simpa using h
    rw [if_pos ho, if_neg (by omega)] at hg
    refine X_seq (X_reg (XR_a (op_move rfl) rfl rfl (XR_a (op_assign rfl) rfl rfl (XR_a (op_assign rfl) rfl rfl (XR_nil ?_)))))
    refine X_ret (.cons (.tmp rfl) (.cons (.tmp rfl) .nil)) ?_
    subst hg
    exact ⟨_, T.2.1, rfl, by omega, fun _ => rfl, (St.reF [_, _, _, _, _] 5 st [0, 2, 3, 1, 4] (by decide)).tail.tail.tail⟩
   ·have ho : T.2.2.1 = false := by simpa using h
    rw [if_neg (by rw [ho]; simp)] at hg
    obtain ⟨hlt, he0, hri, hb0, hb1⟩ := hna.2.2 ho
    obtain ⟨hs1, hs2, hs3⟩ := Tok.size_le hri
    refine X_seq (X_reg ?_)
    first | refine XR_a (op_field0 rfl rfl) rfl rfl ?_ | refine XR_a (op_fieldn rfl rfl) rfl rfl ?_
    refine XR_a (op_ld (st.cell 0 (i := 2) rfl rfl) rfl rfl rfl) rfl rfl ?_
    refine XR_a (op_move rfl) rfl rfl ?_
    refine XR_a (op_gtr rfl rfl) rfl rfl ?_
    refine XR_a (op_assign rfl) rfl rfl (XR_nil ?_)
    refine X_if rfl (fun h => ?_) (fun h => ?_)
    ·rw [if_pos (by omega)] at hg
     refine X_seq (X_reg (XR_a (op_assign rfl) rfl rfl (XR_a (op_assign rfl) rfl rfl (XR_nil ?_))))
     refine X_ret (.cons (.tmp rfl) (.cons (.tmp rfl) .nil)) ?_
     exact bad _ hg.symm (by omega) _ _ (by omega) (St.reF [_, _, _, _, _] 5 st [0, 2, 3, 4, 1] (by decide)).tail.tail.tail.tail
    ·rw [if_neg (by omega)] at hg
     refine X_seq (X_reg (XR_a (op_move rfl) rfl rfl (XR_a (op_move rfl) rfl rfl (XR_a (op_move rfl) rfl rfl ?_))))
     refine XR_a (op_subI rfl rfl (by simp only [inK] at hmo ⊢; omega)) rfl rfl ?_
     refine XR_a (op_gtr rfl rfl) rfl rfl ?_
     refine XR_a (op_assign rfl) rfl rfl (XR_nil ?_)
     refine X_if rfl (fun h => ?_) (fun h => ?_)
     ·rw [if_pos (by omega)] at hg
      refine X_seq (X_reg (XR_a (op_assign rfl) rfl rfl (XR_a (op_assign rfl) rfl rfl (XR_nil ?_))))
      refine X_ret (.cons (.tmp rfl) (.cons (.tmp rfl) .nil)) ?_
      exact bad _ hg.symm (by omega) _ _ (by omega) (St.reF [_, _, _, _, _] 5 st [0, 2, 3, 4, 1] (by decide)).tail.tail.tail.tail
     ·rw [if_neg (by omega)] at hg
      refine X_skip (X_blk (X_seq (X_reg (XR_a (op_move rfl) rfl rfl ?_))))
      refine XR_a (op_ldA (vs := tokV T.1) (st.cells 0 rfl) rfl rfl rfl rfl) rfl rfl ?_
      refine XR_wa (opl_varA (us := tokV T.1) rfl rfl rfl rfl (by kernel_rfl)) rfl rfl rfl ?_
      rintro _ hp ⟨A8, rfl, hx9, hrd⟩
      replace st := st.ext hx9
      refine XR_wa (opl_append st 4 rfl (hrd) (rfl) (tokV_one _) (by rw [flat_length _ 3 (fun _ => rfl)]; simp; omega) rfl rfl rfl rfl rfl rfl rfl) rfl rfl rfl fun v hp st => ?_
      simp only [List.set_cons_zero, List.set_cons_succ] at st
      have e2 : acc.flatMap tokV ++ tokV T.1 = (acc ++ [T.1]).flatMap tokV := by rw [List.flatMap_append]; simp
      rw [e2] at st
      refine XR_a (op_assign rfl) rfl rfl (XR_nil (X_reg (XR_a (op_move rfl) rfl rfl (XR_a (op_move rfl) rfl rfl ?_))))
      refine XR_a (op_addI rfl rfl (by simp only [inK]; omega)) rfl rfl ?_
      refine XR_as (nV (sz + T.1.size)) (congrArg (Value.int .i64) (by omega)) ?_
      refine XR_a (op_assign rfl) rfl rfl (XR_nil (X_blk ?_))
      refine X_again (f, T.2.1, sz + T.1.size, acc ++ [T.1], _) (.cons rfl (.cons rfl (.cons rfl (.cons rfl (.cons rfl (.cons rfl (.nil _))))))) ⟨hg, by simp only; omega, by simp only; omega, by simp only; omega, by simp only [List.length_append, List.length_cons, List.length_nil]; omega, fun _ => by simp only; omega, st.tail⟩ (by simp only; omega)
end Go.Bn
end

section
set_option linter.unusedVariables false
set_option linter.unusedSimpArgs false
set_option maxHeartbeats 4000000
set_option maxRecDepth 20000
namespace Go.Bn
open Go Proofs
theorem brows_spec {B n c : Nat} {A : Option Addr} {ts : List Tok} {F : List Res} {h0 : Heap} (st0 : St B h0 h0 F) (hrB : ∀ h', Low B h0 h' → Rd h' A (ts.flatMap tokV)) (hl : ts.length = n) (hn : n ≤ 17592186044416) (hby : ∀ t ∈ ts, 0 ≤ t.byte ∧ t.byte < 256) :
  Ret Tryz.prog 41 [.slice A n c] h0 fun v h' => ∃ w, v = retVal [w, .bool (decide (rightL ts))] ∧ (rightL ts → St B h0 h' (row 94 7 w ((ts.map splitY).flatMap syV) :: F)) ∧ (¬ rightL ts → St B h0 h' F) := by
 refine ret_of_X Tryz.func41 rfl rfl fun w0 hw0 => ?_
 simp only [argE, Nat.zero_add, Nat.reduceAdd]
 have st := st0
 refine X_seq (X_reg (XR_a (op_assign rfl) rfl rfl (XR_a (op_assign rfl) rfl rfl (XR_nil ?_))))
 refine X_scope rfl (fun _ _ _ hh => hh) ?_
 refine X_seq (X_seq (X_reg (XR_a (op_move rfl) rfl rfl ?_)))
 refine XR_a (op_len rfl rfl rfl) rfl rfl ?_
 refine XR_a (op_gtr rfl rfl) rfl rfl ?_
 refine XR_nil ?_
 refine X_if rfl (fun h => ?_) (fun h => ?_)
 ·refine X_seq (X_reg (XR_a (op_assign rfl) rfl rfl (XR_a (op_assign rfl) rfl rfl (XR_nil ?_))))
  refine X_ret (.cons (.tmp rfl) (.cons (.tmp rfl) .nil)) ?_
  have hno : ¬ rightL ts := fun hh => by have := hh.1; omega
  rw [decide_eq_false hno]
  exact ⟨_, rfl, fun hh => absurd hh hno, fun _ => st⟩
 ·refine X_skip (X_seq (X_reg (XR_a (op_assign rfl) rfl rfl (XR_nil (X_seq ?_)))))
  refine X_reg (XR_a (op_assign rfl) rfl rfl (XR_nil (X_seq ?_)))
  refine X_label ?_
  refine X_seq (X_seq (X_reg (XR_a (op_move rfl) rfl rfl ?_)))
  refine XR_a (op_len rfl rfl rfl) rfl rfl ?_
  refine XR_a (op_move rfl) rfl rfl (XR_nil (X_block ?_))
  have st := st0.nilrow 94 7
  refine X_loop (fun s => n - s.1) (fun s => [(4, s.2), (5, .bool true), (12, .slice A n c), (13, nV n), (14, nV s.1)])
   (fun (s : Nat × Value) hp => s.1 ≤ n ∧ (∀ t ∈ ts.take s.1, t.right) ∧ St B h0 hp (row 94 7 s.2 (((ts.take s.1).map splitY).flatMap syV) :: F))
   (0, _) (.cons rfl (.cons rfl (.cons rfl (.cons rfl (.cons rfl (.nil _)))))) ⟨Nat.zero_le _, by simp, st⟩ ?_
  clear st
  rintro ⟨i, v⟩ hp ⟨hi, hri, st⟩
  simp only at hi hri st ⊢
  refine X_seq (X_reg ?_)
  refine XR_a (op_lss rfl rfl) rfl rfl ?_
  refine XR_nil (X_seq ?_)
  refine X_if rfl (fun h => ?_) (fun h => ?_)
  ·have hil : i < ts.length := by omega
   obtain ⟨t, ht⟩ : ∃ t, ts[i] = t := ⟨_, rfl⟩
   have htm : t ∈ ts := ht ▸ List.getElem_mem hil
   obtain ⟨g1, o1, rfl, hc1⟩ := Rd.flat tokV 3 (hrB hp st.low) (fun _ => rfl) (by omega) (by omega)
   have hcx := hc1 i hil
   rw [ht] at hcx
   obtain ⟨A4, n4, c4, rfl, hl4, _⟩ := st.row 0 rfl
   rw [flat_length _ 7 (fun _ => rfl), List.length_map, List.length_take] at hl4
   have htk : ts.take (i + 1) = ts.take i ++ [t] := by rw [List.take_succ_eq_append_getElem hil, ht]
   refine X_skip (X_seq (X_block (X_seq (X_reg ?_))))
   refine XR_a (op_index (i := i) rfl rfl rfl (by omega)) rfl rfl ?_
   refine XR_a (op_ldA (vs := tokV t) hcx rfl rfl rfl rfl) rfl rfl ?_
   refine XR_wa (opl_new rfl) rfl rfl rfl ?_
   rintro _ hp1 ⟨p7, rfl, hnew⟩
   replace st := st.new hnew
   refine XR_wn (opl_store_whole (us := tokV t) st 0 rfl rfl rfl rfl rfl (tokV_one _) rfl) rfl rfl fun _ hp st => ?_
   simp only [List.set_cons_zero, List.set_cons_succ] at st
   refine XR_nil (X_seq (X_reg ?_))
   refine XR_wa (opl_new rfl) rfl rfl rfl ?_
   rintro _ hp2 ⟨p8, rfl, hnew⟩
   replace st := st.new hnew
   refine XR_nil (X_seq (X_seq (X_reg ?_)))
   refine XR_a (op_ldA (vs := tokV t) (st.cells 1 rfl) rfl rfl rfl rfl) rfl rfl ?_
   refine XR_wa (opl_call (ssplit_spec (hby t htm) _) rfl (by kernel_rfl)) rfl rfl rfl ?_
   rintro _ hp4 ⟨rfl, hx4⟩
   replace st := st.ext hx4
   refine XR_a (op_move rfl) rfl rfl ?_
   by_cases hrt : t.right
   ·rw [splitT_yes hrt]
    refine XR_a (op_extract rfl rfl) rfl rfl (XR_a (op_extract rfl rfl) rfl rfl ?_)
    refine XR_wn (opl_store_whole (us := syV (splitY t)) st 0 rfl rfl rfl rfl rfl (syV_one _) rfl) rfl rfl fun _ hp st => ?_
    simp only [List.set_cons_zero, List.set_cons_succ] at st
    refine XR_a (op_assign rfl) rfl rfl (XR_nil (X_seq (X_reg (XR_a (op_move rfl) rfl rfl ?_))))
    first | refine XR_a (op_notd rfl) rfl rfl ?_ | refine XR_a (op_not rfl) rfl rfl ?_
    refine XR_as (.bool false) rfl ?_
    refine XR_nil (X_else rfl (X_skip (X_reg (XR_a (op_move rfl) rfl rfl ?_))))
    refine XR_a (op_ldA (vs := syV (splitY t)) (st.cells 0 rfl) rfl rfl rfl rfl) rfl rfl ?_
    refine XR_wa (opl_varA (us := syV (splitY t)) rfl rfl rfl rfl (by kernel_rfl)) rfl rfl rfl ?_
    rintro _ hp ⟨A8, rfl, hx9, hrd⟩
    replace st := st.ext hx9
    refine XR_wa (opl_append st 2 rfl (hrd) (rfl) (syV_one _) (by rw [flat_length _ 7 (fun _ => rfl)]; simp; omega) rfl rfl rfl rfl rfl rfl rfl) rfl rfl rfl fun v hp st => ?_
    simp only [List.set_cons_zero, List.set_cons_succ] at st
    have e2 : ((ts.take i).map splitY).flatMap syV ++ syV (splitY t) = ((ts.take (i + 1)).map splitY).flatMap syV := by rw [htk, List.map_append, List.flatMap_append]; simp
    rw [e2] at st
    refine XR_a (op_assign rfl) rfl rfl (XR_nil (X_blk (X_reg ?_)))
    first | refine XR_a (op_addN (n := 1) rfl rfl (by simp only [inK]; omega)) rfl rfl ?_ | refine XR_a (op_addI rfl rfl (by simp only [inK]; omega)) rfl rfl ?_ | refine XR_a (op_add rfl rfl) rfl rfl ?_
    refine XR_a (op_move rfl) rfl rfl (XR_nil ?_)
    exact X_again (i + 1, _) (.cons rfl (.cons rfl (.cons rfl (.cons rfl (.cons rfl (.nil _)))))) ⟨by simp only; omega, fun x hx => by simp only [htk] at hx; rcases List.mem_append.1 hx with hx | hx; exact hri x hx; rw [List.mem_singleton] at hx; rw [hx]; exact hrt, st.tail.tail⟩ (by simp only; omega)
   ·rw [splitT_no hrt]
    refine XR_a (op_extract rfl rfl) rfl rfl (XR_a (op_extract rfl rfl) rfl rfl ?_)
    refine XR_wn (opl_store_whole (us := syV Sy.nil) st 0 rfl rfl rfl rfl rfl (syV_one _) rfl) rfl rfl fun _ hp st => ?_
    simp only [List.set_cons_zero, List.set_cons_succ] at st
    refine XR_a (op_assign rfl) rfl rfl (XR_nil (X_seq (X_reg (XR_a (op_move rfl) rfl rfl ?_))))
    first | refine XR_a (op_notd rfl) rfl rfl ?_ | refine XR_a (op_not rfl) rfl rfl ?_
    refine XR_as (.bool true) rfl ?_
    refine XR_nil (X_then rfl (X_exit rfl (X_seq (X_reg (XR_a (op_move rfl) rfl rfl ?_)))))
    refine XR_a (op_move rfl) rfl rfl (XR_a (op_assign rfl) rfl rfl (XR_a (op_assign rfl) rfl rfl (XR_nil ?_)))
    refine X_ret (.cons (.tmp rfl) (.cons (.tmp rfl) .nil)) ?_
    have hno : ¬ rightL ts := fun hh => hrt (hh.2 t htm)
    rw [decide_eq_false hno]
    exact ⟨_, rfl, fun hh => absurd hh hno, fun _ => st.tail.tail.tail⟩
  ·refine X_exit rfl (X_seq (X_reg (XR_a (op_move rfl) rfl rfl (XR_a (op_move rfl) rfl rfl (XR_a (op_assign rfl) rfl rfl ?_)))))
   refine XR_a (op_assign rfl) rfl rfl (XR_nil ?_)
   refine X_ret (.cons (.tmp rfl) (.cons (.tmp rfl) .nil)) ?_
   obtain rfl : i = n := by omega
   rw [List.take_of_length_le (by omega)] at hri st
   have hyes : rightL ts := ⟨by omega, hri⟩
   rw [decide_eq_true hyes]
   exact ⟨_, rfl, fun _ => st, fun hh => absurd hyes hh⟩
theorem bweigh1_spec {B n c : Nat} {A : Option Addr} {ys : List Sy} {F : List Res} {h0 : Heap} (st0 : St B h0 h0 F) (hrB : ∀ h', Low B h0 h' → Rd h' A (ys.flatMap syV)) (hl : ys.length = n) (hn : n ≤ 65536) (hok : ∀ y ∈ ys, 0 ≤ y.a.num ∧ y.a.num < 273 ∧ 0 ≤ y.b.num ∧ y.b.num < 30) :
  Ret Tryz.prog 42 [.slice A n c] h0 fun v h' => ∃ w1 w2, v = retVal [w1, w2] ∧ St B h0 h' (row 3 1 w1 ((firstW ys).map nV) :: row 3 1 w2 ((secondW ys).map nV) :: F) := by
 refine ret_of_X Tryz.func42 rfl rfl fun w0 hw0 => ?_
 simp only [argE, Nat.zero_add, Nat.reduceAdd]
 have st := st0
 refine X_seq (X_reg (XR_a (op_assign rfl) rfl rfl (XR_a (op_assign rfl) rfl rfl (XR_nil (X_seq ?_)))))
 refine X_draw_two byKind [] 0 [2, 1, 3] 1 [0, 2, 3] (by kernel_rfl) (by kernel_rfl) rfl rfl rfl ?_
 refine XR_nil ?_
 refine X_alt (σ := Value × Value) (fun s => [(0, .slice A n c), (2, s.1), (3, s.2)]) (fun s hp => St B h0 hp (row 3 1 s.1 (List.replicate 273 (iV 0)) :: row 3 1 s.2 (List.replicate 30 (iV 0)) :: F)) ?_ ?_ ?_
 ·refine XR_ga (opl_mk (by decide) rfl rfl rfl) rfl rfl rfl (fun _ _ e => e.1) ?_
  rintro v hp hnew
  have st := st.new hnew
  refine XR_a (op_assign rfl) rfl rfl ?_
  refine XR_ga (opl_mk (by decide) rfl rfl rfl) rfl rfl rfl (fun _ _ e => e.1) ?_
  rintro v hp hnew
  have st := st.new hnew
  refine XR_a (op_assign rfl) rfl rfl (XR_nil ?_)
  exact X_meet (_, _) (.cons rfl (.cons rfl (.cons rfl (.nil _)))) (St.reF [_, _] 2 st [1, 0] (by decide))
 ·refine XR_ga (opl_mk (by decide) rfl rfl rfl) rfl rfl rfl (fun _ _ e => e.1) ?_
  rintro v hp hnew
  have st := st.new hnew
  refine XR_ga (opl_mk (by decide) rfl rfl rfl) rfl rfl rfl (fun _ _ e => e.1) ?_
  rintro v hp hnew
  have st := st.new hnew
  refine XR_a (op_assign rfl) rfl rfl (XR_a (op_assign rfl) rfl rfl (XR_nil ?_))
  exact X_meet (_, _) (.cons rfl (.cons rfl (.cons rfl (.nil _)))) st
 rintro ⟨v1, v2⟩ hp st
 simp only at st ⊢
 obtain ⟨ga, na, ca, rfl, hla, _⟩ := st.row0 0 rfl (by rw [List.length_replicate]; omega)
 obtain ⟨gb, nb, cb, rfl, hlb, _⟩ := st.row0 1 rfl (by rw [List.length_replicate]; omega)
 obtain rfl : na = 273 := by rw [List.length_replicate] at hla; omega
 obtain rfl : nb = 30 := by rw [List.length_replicate] at hlb; omega
 refine X_seq (X_reg (XR_a (op_move rfl) rfl rfl ?_))
 refine XR_a (op_index1 (i := 256) rfl rfl rfl (by omega)) rfl rfl ?_
 refine XR_wn (opl_store_row (o := 0) (i := 256) (v := nV 1) st 0 rfl (congrArg (fun x => some (Value.pointer (some ⟨ga, x, none⟩))) (by omega)) rfl (by simp) rfl rfl) rfl rfl fun _ hp st => ?_
 simp only [List.set_cons_zero, List.set_cons_succ] at st
 rw [show (List.replicate 273 (iV 0)).set 256 (nV 1) = (foldW (ys.take 0)).1.map nV by show _ = ((List.replicate 273 0).set 256 1).map nV; rw [List.map_set, List.map_replicate]; rfl, show List.replicate 30 (iV 0) = (foldW (ys.take 0)).2.1.map nV by show _ = (List.replicate 30 0).map nV; rw [List.map_replicate]; rfl] at st
 refine XR_nil (X_seq (X_reg (XR_a (op_assign rfl) rfl rfl (XR_nil (X_seq ?_)))))
 refine X_seq (X_reg (XR_a (op_move rfl) rfl rfl ?_))
 refine XR_a (op_len rfl rfl rfl) rfl rfl ?_
 refine XR_a (op_move rfl) rfl rfl (XR_nil (X_block ?_))
 refine X_loop (fun i => n - i) (fun i => [(2, .slice (some ⟨ga, 0, none⟩) 273 ca), (3, .slice (some ⟨gb, 0, none⟩) 30 cb), (4, nV (foldW (ys.take i)).2.2), (11, .slice A n c), (12, nV n), (13, nV i)])
  (fun (i : Nat) hp => i ≤ n ∧ St B h0 hp (row 3 1 (.slice (some ⟨ga, 0, none⟩) 273 ca) ((foldW (ys.take i)).1.map nV) :: row 3 1 (.slice (some ⟨gb, 0, none⟩) 30 cb) ((foldW (ys.take i)).2.1.map nV) :: F))
  0 (.cons rfl (.cons rfl (.cons rfl (.cons rfl (.cons rfl (.cons rfl (.nil _))))))) ⟨Nat.zero_le _, st⟩ ?_
 clear st
 rintro i hp ⟨hi, st⟩
 obtain ⟨W, hW⟩ : ∃ W, foldW (ys.take i) = W := ⟨_, rfl⟩
 have hWk := foldW_ok (ys.take i)
 rw [hW] at st hWk ⊢
 obtain ⟨k1, k2, k3, k4, k5⟩ := hWk
 rw [List.length_take] at k3 k4 k5
 refine X_seq (X_reg ?_)
 refine XR_a (op_lss rfl rfl) rfl rfl ?_
 refine XR_nil (X_seq ?_)
 refine X_if rfl (fun h => ?_) (fun h => ?_)
 ·have hil : i < ys.length := by omega
  obtain ⟨y, hy⟩ : ∃ y, ys[i] = y := ⟨_, rfl⟩
  have hyo := hok y (hy ▸ List.getElem_mem hil)
  obtain ⟨gy, oy, rfl, hcy⟩ := Rd.flat syV 7 (hrB hp st.low) (fun _ => rfl) (by omega) (by omega)
  have hcx := hcy i hil
  rw [hy] at hcx
  have hsn : foldW (ys.take (i + 1)) = stepW W y := by rw [List.take_succ_eq_append_getElem hil, hy, foldW_snoc, hW]
  obtain ⟨ya, hya⟩ : ∃ a : Nat, y.a.num = a := ⟨y.a.num.toNat, by omega⟩
  obtain ⟨yb, hyb⟩ : ∃ a : Nat, y.b.num = a := ⟨y.b.num.toNat, by omega⟩
  have hga : W.1[ya]? = some (W.1.getD ya 0) := by rw [List.getD_eq_getElem?_getD, List.getElem?_eq_getElem (by omega)]; rfl
  have hgb : W.2.1[yb]? = some (W.2.1.getD yb 0) := by rw [List.getD_eq_getElem?_getD, List.getElem?_eq_getElem (by omega)]; rfl
  have hma := le_sum (List.mem_of_getElem? hga)
  have hmb := le_sum (List.mem_of_getElem? hgb)
  refine X_skip (X_seq (X_block (X_seq (X_reg ?_))))
  refine XR_a (op_index (i := i) rfl rfl rfl (by omega)) rfl rfl ?_
  refine XR_a (op_ldA (vs := syV y) hcx rfl rfl rfl rfl) rfl rfl ?_
  refine XR_wa (opl_new rfl) rfl rfl rfl ?_
  rintro _ hp1 ⟨p6, rfl, hnew⟩
  replace st := st.new hnew
  refine XR_wn (opl_store_whole (us := syV y) st 0 rfl rfl rfl rfl rfl (syV_one _) rfl) rfl rfl fun _ hp st => ?_
  simp only [List.set_cons_zero, List.set_cons_succ] at st
  obtain ⟨_, _, he1, hc1⟩ := (st.rdS 1 rfl).2.at_ (by rw [List.length_map]; omega)
  cases he1
  have hov := hc1 ya (nV (W.1.getD ya 0)) (by rw [List.getElem?_map, hga]; rfl)
  refine XR_nil (X_seq (X_reg (XR_a (op_move rfl) rfl rfl ?_)))
  first | refine XR_a (op_field0 rfl rfl) rfl rfl ?_ | refine XR_a (op_fieldn rfl rfl) rfl rfl ?_
  first | refine XR_a (op_field0 rfl rfl) rfl rfl ?_ | refine XR_a (op_fieldn rfl rfl) rfl rfl ?_
  refine XR_a (op_ld (st.cell 0 (i := 0) rfl rfl) rfl rfl rfl) rfl rfl ?_
  refine XR_as (nV ya) (congrArg (Value.int .i64) hya) ?_
  refine XR_a (op_index1 (i := ya) rfl rfl rfl (by omega)) rfl rfl ?_
  refine XR_a (op_ld (hov) rfl rfl rfl) rfl rfl ?_
  first | refine XR_a (op_addN (n := 1) rfl rfl (by simp only [inK]; omega)) rfl rfl ?_ | refine XR_a (op_addI rfl rfl (by simp only [inK]; omega)) rfl rfl ?_ | refine XR_a (op_add rfl rfl) rfl rfl ?_
  refine XR_a (op_index1 (i := ya) rfl rfl rfl (by omega)) rfl rfl ?_
  refine XR_wn (opl_store_row (o := 0) (i := ya) (v := nV (W.1.getD ya 0 + 1)) st 1 rfl (congrArg (fun x => some (Value.pointer (some ⟨ga, x, none⟩))) (by omega)) rfl (by simp; omega) rfl rfl) rfl rfl fun _ hp st => ?_
  simp only [List.set_cons_zero, List.set_cons_succ] at st
  rw [map_set_nV] at st
  refine XR_nil (X_seq (X_reg ?_))
  first | refine XR_a (op_field0 rfl rfl) rfl rfl ?_ | refine XR_a (op_fieldn rfl rfl) rfl rfl ?_
  refine XR_a (op_ld (st.cell 0 (i := 6) rfl rfl) rfl rfl rfl) rfl rfl ?_
  refine XR_as (.bool (decide (y.m = true))) (congrArg Value.bool (by cases y.m <;> rfl)) ?_
  refine XR_nil ?_
  refine X_if rfl (fun h => ?_) (fun h => ?_)
  ·have hs2 : foldW (ys.take (i + 1)) = (W.1.set ya (W.1.getD ya 0 + 1), W.2.1.set yb (W.2.1.getD yb 0 + 1), W.2.2 + 1) := by
    rw [hsn]; simp only [stepW, addAt, hya, hyb, Int.toNat_natCast]; rw [if_pos h, if_pos h]
   obtain ⟨_, _, he2, hc2⟩ := (st.rdS 2 rfl).2.at_ (by rw [List.length_map]; omega)
   cases he2
   have hov2 := hc2 yb (nV (W.2.1.getD yb 0)) (by rw [List.getElem?_map, hgb]; rfl)
   refine X_seq (X_reg (XR_a (op_move rfl) rfl rfl ?_))
   first | refine XR_a (op_addN (n := 1) rfl rfl (by simp only [inK]; omega)) rfl rfl ?_ | refine XR_a (op_addI rfl rfl (by simp only [inK]; omega)) rfl rfl ?_ | refine XR_a (op_add rfl rfl) rfl rfl ?_
   refine XR_a (op_assign rfl) rfl rfl (XR_nil (X_reg (XR_a (op_move rfl) rfl rfl ?_)))
   first | refine XR_a (op_field0 rfl rfl) rfl rfl ?_ | refine XR_a (op_fieldn rfl rfl) rfl rfl ?_
   first | refine XR_a (op_field0 rfl rfl) rfl rfl ?_ | refine XR_a (op_fieldn rfl rfl) rfl rfl ?_
   refine XR_a (op_ld (st.cell 0 (i := 3) rfl rfl) rfl rfl rfl) rfl rfl ?_
   refine XR_as (nV yb) (congrArg (Value.int .i64) hyb) ?_
   refine XR_a (op_index1 (i := yb) rfl rfl rfl (by omega)) rfl rfl ?_
   refine XR_a (op_ld (hov2) rfl rfl rfl) rfl rfl ?_
   first | refine XR_a (op_addN (n := 1) rfl rfl (by simp only [inK]; omega)) rfl rfl ?_ | refine XR_a (op_addI rfl rfl (by simp only [inK]; omega)) rfl rfl ?_ | refine XR_a (op_add rfl rfl) rfl rfl ?_
   refine XR_a (op_index1 (i := yb) rfl rfl rfl (by omega)) rfl rfl ?_
   refine XR_wn (opl_store_row (o := 0) (i := yb) (v := nV (W.2.1.getD yb 0 + 1)) st 2 rfl (congrArg (fun x => some (Value.pointer (some ⟨gb, x, none⟩))) (by omega)) rfl (by simp; omega) rfl rfl) rfl rfl fun _ hp st => ?_
   simp only [List.set_cons_zero, List.set_cons_succ] at st
   rw [map_set_nV] at st
   refine XR_nil (X_blk (X_reg ?_))
   first | refine XR_a (op_addN (n := 1) rfl rfl (by simp only [inK]; omega)) rfl rfl ?_ | refine XR_a (op_addI rfl rfl (by simp only [inK]; omega)) rfl rfl ?_ | refine XR_a (op_add rfl rfl) rfl rfl ?_
   refine XR_a (op_move rfl) rfl rfl (XR_nil ?_)
   exact X_again (i + 1) (.cons rfl (.cons rfl (.cons (by rw [hs2]; rfl) (.cons rfl (.cons rfl (.cons rfl (.nil _))))))) ⟨by omega, by rw [hs2]; exact st.tail⟩ (by omega)
  ·have hs2 : foldW (ys.take (i + 1)) = (W.1.set ya (W.1.getD ya 0 + 1), W.2.1, W.2.2) := by
    rw [hsn]; simp only [stepW, addAt, hya, Int.toNat_natCast]; rw [if_neg h, if_neg h]
   refine X_skip (X_blk (X_reg ?_))
   first | refine XR_a (op_addN (n := 1) rfl rfl (by simp only [inK]; omega)) rfl rfl ?_ | refine XR_a (op_addI rfl rfl (by simp only [inK]; omega)) rfl rfl ?_ | refine XR_a (op_add rfl rfl) rfl rfl ?_
   refine XR_a (op_move rfl) rfl rfl (XR_nil ?_)
   exact X_again (i + 1) (.cons rfl (.cons rfl (.cons (by rw [hs2]; rfl) (.cons rfl (.cons rfl (.cons rfl (.nil _))))))) ⟨by omega, by rw [hs2]; exact st.tail⟩ (by omega)
 ·rw [List.take_of_length_le (by omega)] at hW
  refine X_exit rfl (X_seq (X_seq (X_reg (XR_a (op_move rfl) rfl rfl ?_))))
  refine XR_a (op_eql rfl rfl) rfl rfl ?_
  refine XR_nil ?_
  refine X_if rfl (fun h => ?_) (fun h => ?_)
  ·have hs : secondW ys = W.2.1.set 0 1 := by unfold secondW; rw [hW, if_pos (by omega)]
   refine X_reg (XR_a (op_move rfl) rfl rfl ?_)
   refine XR_a (op_index1 (i := 0) rfl rfl rfl (by omega)) rfl rfl ?_
   refine XR_wn (opl_store_row (o := 0) (i := 0) (v := nV 1) st 1 rfl (congrArg (fun x => some (Value.pointer (some ⟨gb, x, none⟩))) (by omega)) rfl (by simp; omega) rfl rfl) rfl rfl fun _ hp st => ?_
   simp only [List.set_cons_zero, List.set_cons_succ] at st
   rw [map_set_nV] at st
   refine XR_nil (X_seq (X_reg (XR_a (op_move rfl) rfl rfl (XR_a (op_move rfl) rfl rfl (XR_a (op_assign rfl) rfl rfl ?_)))))
   refine XR_a (op_assign rfl) rfl rfl (XR_nil ?_)
   refine X_ret (.cons (.tmp rfl) (.cons (.tmp rfl) .nil)) ?_
   exact ⟨_, _, rfl, by rw [hs, show firstW ys = W.1 from congrArg (·.1) hW]; exact st⟩
  ·have hs : secondW ys = W.2.1 := by unfold secondW; rw [hW, if_neg (by omega)]
   refine X_skip (X_seq (X_reg (XR_a (op_move rfl) rfl rfl (XR_a (op_move rfl) rfl rfl (XR_a (op_assign rfl) rfl rfl ?_)))))
   refine XR_a (op_assign rfl) rfl rfl (XR_nil ?_)
   refine X_ret (.cons (.tmp rfl) (.cons (.tmp rfl) .nil)) ?_
   exact ⟨_, _, rfl, by rw [hs, show firstW ys = W.1 from congrArg (·.1) hW]; exact st⟩
end Go.Bn
end

section
set_option linter.unusedVariables false
set_option linter.unusedSimpArgs false
namespace Go.Bn
def Rk (key : Nat → Nat) (a b : Nat) : Prop := key a < key b ∨ (key a = key b ∧ a < b)
def cmpI (a b : Nat) : Int := if a < b then -1 else if b < a then 1 else 0
theorem cmpI_neg {a b : Nat} : cmpI a b < 0 ↔ a < b := by unfold cmpI; split <;> (try split) <;> omega
abbrev RkS (key : Nat → Nat) (l : List Nat) : Prop := l.Pairwise (Rk key)
def PreM (key : Nat → Nat) (U V : List Nat) : Prop := RkS key U ∧ RkS key V ∧ ∀ u ∈ U, ∀ v ∈ V, key u = key v → u < v
def Mrg (key : Nat → Nat) (U V W : List Nat) : Prop := W.Perm (U ++ V) ∧ RkS key W
variable {key : Nat → Nat}
theorem Rk.le {a b : Nat} (h : Rk key a b) : key a ≤ key b := by rcases h with h | h <;> omega
theorem getD_eq {l : List Nat} {i : Nat} (h : i < l.length) : l.getD i 0 = l[i] := by simp [List.getD, h]
theorem getD_mem {l : List Nat} {i : Nat} (h : i < l.length) : l.getD i 0 ∈ l := by rw [getD_eq h]; exact List.getElem_mem h
theorem RkS.get {l : List Nat} (h : RkS key l) {i j : Nat} (hij : i < j) (hj : j < l.length) : Rk key (l.getD i 0) (l.getD j 0) := by
 rw [getD_eq (by omega), getD_eq hj]
 exact List.pairwise_iff_getElem.1 h i j (by omega) hj hij
theorem RkS.get_le {l : List Nat} (h : RkS key l) {i j : Nat} (hij : i ≤ j) (hj : j < l.length) : key (l.getD i 0) ≤ key (l.getD j 0) := by
 rcases Nat.lt_or_eq_of_le hij with h1 | rfl
 ·exact (h.get h1 hj).le
 ·exact Nat.le_refl _
theorem mem_take_get {l : List Nat} {i x : Nat} (h : x ∈ l.take i) : ∃ j, j < i ∧ j < l.length ∧ x = l.getD j 0 := by
 obtain ⟨j, hj, he⟩ := List.mem_take_iff_getElem.1 h
 exact ⟨j, by omega, by omega, by rw [getD_eq (by omega)]; exact he.symm⟩
theorem mem_drop_get {l : List Nat} {i x : Nat} (h : x ∈ l.drop i) : ∃ j, i ≤ j ∧ j < l.length ∧ x = l.getD j 0 := by
 obtain ⟨j, hj, he⟩ := List.mem_drop_iff_getElem.1 h
 exact ⟨i + j, by omega, by omega, by rw [getD_eq (by omega), ← he]⟩
theorem RkS.take {l : List Nat} (h : RkS key l) (i : Nat) : RkS key (l.take i) := h.sublist (List.take_sublist _ _)
theorem RkS.drop {l : List Nat} (h : RkS key l) (i : Nat) : RkS key (l.drop i) := h.sublist (List.drop_sublist _ _)
theorem PreM.part {U V : List Nat} (h : PreM key U V) (i j : Nat) : PreM key (U.take i) (V.take j) ∧ PreM key (U.drop i) (V.drop j) :=
  ⟨⟨h.1.take i, h.2.1.take j, fun u hu v hv => h.2.2 u (List.mem_of_mem_take hu) v (List.mem_of_mem_take hv)⟩,
   ⟨h.1.drop i, h.2.1.drop j, fun u hu v hv => h.2.2 u (List.mem_of_mem_drop hu) v (List.mem_of_mem_drop hv)⟩⟩
theorem mrg_split {U V W1 W2 : List Nat} (h : PreM key U V) {i j : Nat} (h1 : i = 0 ∨ V.length ≤ j ∨ key (U.getD (i - 1) 0) ≤ key (V.getD j 0)) (h2 : U.length ≤ i ∨ j = 0 ∨ key (V.getD (j - 1) 0) < key (U.getD i 0))
  (hi : i ≤ U.length) (hj : j ≤ V.length) (m1 : Mrg key (U.take i) (V.take j) W1) (m2 : Mrg key (U.drop i) (V.drop j) W2) : Mrg key U V (W1 ++ W2) := by
 refine ⟨?_, ?_⟩
 ·refine (m1.1.append m2.1).trans ?_
  have e1 : U ++ V = (U.take i ++ U.drop i) ++ (V.take j ++ V.drop j) := by rw [List.take_append_drop, List.take_append_drop]
  rw [e1, List.append_assoc, List.append_assoc]
  refine List.Perm.append_left _ ?_
  rw [← List.append_assoc, ← List.append_assoc]
  exact List.Perm.append_right _ List.perm_append_comm
 ·refine List.pairwise_append.2 ⟨m1.2, m2.2, fun a ha b hb => ?_⟩
  rw [m1.1.mem_iff, List.mem_append] at ha
  rw [m2.1.mem_iff, List.mem_append] at hb
  rcases ha with ha | ha <;> rcases hb with hb | hb <;> obtain ⟨x, hx, hxl, rfl⟩ := mem_take_get ha <;> obtain ⟨y, hy, hyl, rfl⟩ := mem_drop_get hb
  ·exact h.1.get (by omega) hyl
  ·have k1 := h.1.get_le (i := x) (j := i - 1) (by omega) (by omega)
   have k2 := h.2.1.get_le (i := j) (j := y) hy hyl
   have k3 : key (U.getD (i - 1) 0) ≤ key (V.getD j 0) := by
    rcases h1 with h1 | h1 | h1
    ·omega
    ·omega
    ·exact h1
   rcases Nat.lt_or_ge (key (U.getD x 0)) (key (V.getD y 0)) with k4 | k4
   ·exact .inl k4
   ·exact .inr ⟨by omega, h.2.2 _ (getD_mem hxl) _ (getD_mem hyl) (by omega)⟩
  ·have k1 := h.2.1.get_le (i := x) (j := j - 1) (by omega) (by omega)
   have k2 := h.1.get_le (i := i) (j := y) hy hyl
   have k3 : key (V.getD (j - 1) 0) < key (U.getD i 0) := by
    rcases h2 with h2 | h2 | h2
    ·omega
    ·omega
    ·exact h2
   exact .inl (by omega)
  ·exact h.2.1.get (by omega) hyl
theorem mrg_nil_left {V : List Nat} (h : RkS key V) : Mrg key [] V V := ⟨List.Perm.refl _, h⟩
theorem mrg_nil_right {U : List Nat} (h : RkS key U) : Mrg key U [] U := ⟨by simp, h⟩
theorem mrg_left {u : Nat} {V : List Nat} (h : PreM key [u] V) {i : Nat} (hi : i ≤ V.length) (h1 : i = 0 ∨ key (V.getD (i - 1) 0) < key u) (h2 : V.length ≤ i ∨ key u ≤ key (V.getD i 0)) : Mrg key [u] V (V.take i ++ u :: V.drop i) := by
 have m1 : Mrg key ([u].take 0) (V.take i) (V.take i) := mrg_nil_left (h.2.1.take i)
 have m2 : Mrg key ([u].drop 0) (V.drop i) (u :: V.drop i) := by
  refine ⟨List.Perm.refl _, List.pairwise_cons.2 ⟨fun b hb => ?_, h.2.1.drop i⟩⟩
  obtain ⟨y, hy, hyl, rfl⟩ := mem_drop_get hb
  have k2 := h.2.1.get_le (i := i) (j := y) hy hyl
  have k3 : key u ≤ key (V.getD i 0) := by
   rcases h2 with h2 | h2
   ·omega
   ·exact h2
  rcases Nat.lt_or_ge (key u) (key (V.getD y 0)) with k4 | k4
  ·exact .inl k4
  ·exact .inr ⟨by omega, h.2.2 u (by simp) _ (getD_mem hyl) (by omega)⟩
 refine mrg_split h (i := 0) (j := i) (.inl rfl) ?_ (Nat.zero_le _) hi m1 m2
 rcases h1 with h1 | h1
 ·exact .inr (.inl h1)
 ·exact .inr (.inr h1)
theorem mrg_right {v : Nat} {U : List Nat} (h : PreM key U [v]) {i : Nat} (hi : i ≤ U.length) (h1 : i = 0 ∨ key (U.getD (i - 1) 0) ≤ key v) (h2 : U.length ≤ i ∨ key v < key (U.getD i 0)) : Mrg key U [v] (U.take i ++ v :: U.drop i) := by
 have m1 : Mrg key (U.take i) ([v].take 0) (U.take i) := ⟨by simp, h.1.take i⟩
 have m2 : Mrg key (U.drop i) ([v].drop 0) (v :: U.drop i) := by
  refine ⟨(List.perm_append_comm (l₁ := [v]) (l₂ := U.drop i)), List.pairwise_cons.2 ⟨fun b hb => ?_, h.1.drop i⟩⟩
  obtain ⟨y, hy, hyl, rfl⟩ := mem_drop_get hb
  have k2 := h.1.get_le (i := i) (j := y) hy hyl
  have k3 : key v < key (U.getD i 0) := by
   rcases h2 with h2 | h2
   ·omega
   ·exact h2
  exact .inl (by omega)
 refine mrg_split h (i := i) (j := 0) ?_ (.inr (.inl rfl)) hi (Nat.zero_le _) m1 m2
 rcases h1 with h1 | h1
 ·exact .inl h1
 ·exact .inr (.inr h1)
theorem get_mid {α : Type} (A C : List α) (x : α) {i : Nat} (hi : i = A.length) : (A ++ x :: C)[i]? = some x := by subst hi; simp
theorem get_mid2 {α : Type} (A M C : List α) (x y : α) {i : Nat} (hi : i = A.length + 1 + M.length) : (A ++ x :: (M ++ y :: C))[i]? = some y := by
 subst hi
 rw [List.getElem?_append_right (by omega), show A.length + 1 + M.length - A.length = M.length + 1 by omega, List.getElem?_cons_succ, List.getElem?_append_right (Nat.le_refl _), Nat.sub_self]; rfl
theorem set_mid {α : Type} (A C : List α) (x y : α) {i : Nat} (hi : i = A.length) : (A ++ x :: C).set i y = A ++ y :: C := by
 subst hi; rw [List.set_append_right _ _ (Nat.le_refl _), Nat.sub_self]; rfl
theorem set_mid2 {α : Type} (A M C : List α) (x y z : α) {i : Nat} (hi : i = A.length + 1 + M.length) : (A ++ x :: (M ++ y :: C)).set i z = A ++ x :: (M ++ z :: C) := by
 have := set_mid (A ++ x :: M) C y z (i := i) (by simp; omega)
 simpa using this
theorem get_part {X U R : List Nat} {i a : Nat} (ha : X.length = a) (hi : i < U.length) : (X ++ (U ++ R))[a + i]? = some (U.getD i 0) := by
 subst ha
 rw [List.getElem?_append_right (by omega), Nat.add_sub_cancel_left, List.getElem?_append_left hi, getD_eq hi]; simp [hi]
theorem get_part2 {X U V R : List Nat} {i a : Nat} (ha : X.length + U.length = a) (hi : i < V.length) : (X ++ (U ++ (V ++ R)))[a + i]? = some (V.getD i 0) := by
 have := get_part (X := X ++ U) (U := V) (R := R) (i := i) (a := a) (by simpa using ha) hi
 rwa [List.append_assoc] at this
theorem take_snoc {l : List Nat} {i : Nat} (hi : i < l.length) : l.take (i + 1) = l.take i ++ [l.getD i 0] := by rw [getD_eq hi]; exact List.take_succ_eq_append_getElem hi
theorem drop_cons {l : List Nat} {i : Nat} (hi : i < l.length) : l.drop i = l.getD i 0 :: l.drop (i + 1) := by rw [getD_eq hi]; exact List.drop_eq_getElem_cons hi
def blk (B k : Nat) (l : List Nat) : List Nat := (l.drop (k * B)).take B
theorem blk_double (B k : Nat) (l : List Nat) : blk (2 * B) k l = blk B (2 * k) l ++ blk B (2 * k + 1) l := by
 unfold blk
 rw [Nat.two_mul B, List.take_add, List.drop_drop, show k * (B + B) = 2 * k * B by rw [Nat.mul_add, Nat.mul_comm 2 k, Nat.mul_assoc, Nat.two_mul, Nat.mul_add], show 2 * k * B + B = (2 * k + 1) * B by rw [Nat.add_mul, Nat.one_mul]]
theorem blk_here {B k : Nat} {X M Y : List Nat} (hX : X.length = k * B) (hM : M.length ≤ B) (hY : M.length = B ∨ Y = []) : blk B k (X ++ (M ++ Y)) = M := by
 unfold blk
 rw [← hX, List.drop_append_of_le_length (Nat.le_refl _), List.drop_length, List.nil_append]
 rcases hY with h | rfl
 ·rw [List.take_append_of_le_length (by omega), List.take_of_length_le (by omega)]
 ·rw [List.append_nil, List.take_of_length_le hM]
theorem blk_other {B k k' : Nat} {X M M' Y : List Nat} (hX : X.length = k * B) (hl : M'.length = M.length) (hM : M.length ≤ B) (hY : M.length = B ∨ Y = []) (hk : k' ≠ k) : blk B k' (X ++ (M' ++ Y)) = blk B k' (X ++ (M ++ Y)) := by
 unfold blk
 rcases Nat.lt_or_ge k' k with h | h
 ·have h1 : (k' + 1) * B ≤ k * B := Nat.mul_le_mul_right _ h
  rw [Nat.add_mul, Nat.one_mul] at h1
  rw [List.drop_append_of_le_length (by omega), List.drop_append_of_le_length (by omega), List.take_append_of_le_length (by rw [List.length_drop]; omega), List.take_append_of_le_length (by rw [List.length_drop]; omega)]
 ·have h1 : (k + 1) * B ≤ k' * B := Nat.mul_le_mul_right _ (by omega)
  rw [Nat.add_mul, Nat.one_mul] at h1
  have e : ∀ Z : List Nat, Z.length = M.length → (X ++ (Z ++ Y)).drop (k' * B) = Y.drop (k' * B - X.length - M.length) := fun Z hZ => by
   rcases hY with h2 | rfl
   ·rw [List.drop_append, List.drop_of_length_le (by omega), List.nil_append, List.drop_append, List.drop_of_length_le (by omega), List.nil_append, hZ]
   ·rw [List.append_nil, List.drop_of_length_le (by simp; omega), List.drop_nil]
  rw [e M' hl, e M rfl]
theorem blk_out {B k : Nat} {l : List Nat} (h : l.length ≤ k * B) : blk B k l = [] := by unfold blk; rw [List.drop_of_length_le h, List.take_nil]
theorem blk_all {B : Nat} {l : List Nat} (h : l.length ≤ B) : blk B 0 l = l := by unfold blk; rw [Nat.zero_mul, List.drop_zero, List.take_of_length_le h]
def BOK (key : Nat → Nat) (B : Nat) (l l0 : List Nat) (k : Nat) : Prop := (blk B k l).Perm (blk B k l0) ∧ RkS key (blk B k l)
theorem cut3 (l : List Nat) (a s : Nat) : l = l.take a ++ ((l.drop a).take s ++ l.drop (a + s)) := by
 rw [← List.drop_drop, List.take_append_drop, List.take_append_drop]
theorem blk_away {B k : Nat} {X M M' Y : List Nat} (hl : M'.length = M.length) (h : X.length + M.length ≤ k * B ∨ (k + 1) * B ≤ X.length) : blk B k (X ++ (M' ++ Y)) = blk B k (X ++ (M ++ Y)) := by
 unfold blk
 rcases h with h | h
 ·have e : ∀ Z : List Nat, Z.length = M.length → (X ++ (Z ++ Y)).drop (k * B) = Y.drop (k * B - X.length - M.length) := fun Z hZ => by
   rw [List.drop_append, List.drop_of_length_le (by omega), List.nil_append, List.drop_append, List.drop_of_length_le (by omega), List.nil_append, hZ]
  rw [e M' hl, e M rfl]
 ·rw [Nat.add_mul, Nat.one_mul] at h
  rw [List.drop_append_of_le_length (by omega), List.drop_append_of_le_length (by omega), List.take_append_of_le_length (by rw [List.length_drop]; omega), List.take_append_of_le_length (by rw [List.length_drop]; omega)]
theorem mem_blk {B k x : Nat} {l : List Nat} (h : x ∈ blk B k l) : x ∈ l := List.mem_of_mem_drop (List.mem_of_mem_take h)
theorem blk_length {B k : Nat} {l : List Nat} : (blk B k l).length = min B (l.length - k * B) := by unfold blk; rw [List.length_take, List.length_drop]
theorem BOK.out {B k : Nat} {l l0 : List Nat} (hl : l.length = l0.length) (h : l.length ≤ k * B) : BOK key B l l0 k := by
 unfold BOK
 rw [blk_out h, blk_out (by omega)]
 exact ⟨List.Perm.refl _, List.Pairwise.nil⟩
theorem BOK.put {B k : Nat} {X M M' Y l0 : List Nat} (hX : X.length = k * B) (hM : M.length ≤ B) (hY : M.length = B ∨ Y = []) (hp : M'.Perm (blk B k l0)) (hl : M'.length = M.length) (hs : RkS key M') : BOK key B (X ++ (M' ++ Y)) l0 k := by
 unfold BOK
 rw [blk_here hX (by omega) (hY.imp (fun h => by omega) id)]
 exact ⟨hp, hs⟩
theorem BOK.keep {B k : Nat} {X M M' Y l0 : List Nat} (hl : M'.length = M.length) (h : X.length + M.length ≤ k * B ∨ (k + 1) * B ≤ X.length) (hk : BOK key B (X ++ (M ++ Y)) l0 k) : BOK key B (X ++ (M' ++ Y)) l0 k := by
 unfold BOK at *
 rwa [blk_away hl h]
theorem BOK.double {B k : Nat} {l l0 : List Nat} (hl : l.length = l0.length) (h : l.length ≤ (2 * k + 1) * B) (h1 : BOK key B l l0 (2 * k)) : BOK key (2 * B) l l0 k := by
 unfold BOK at *
 rw [blk_double, blk_double, blk_out (k := 2 * k + 1) h, blk_out (k := 2 * k + 1) (by omega), List.append_nil, List.append_nil]
 exact h1
theorem preM_blk {B k : Nat} {l l0 : List Nat} (hlt : l0.Pairwise (· < ·)) (h1 : BOK key B l l0 (2 * k)) (h2 : BOK key B l l0 (2 * k + 1)) : PreM key (blk B (2 * k) l) (blk B (2 * k + 1) l) := by
 refine ⟨h1.2, h2.2, fun u hu v hv _ => ?_⟩
 rw [h1.1.mem_iff] at hu
 rw [h2.1.mem_iff] at hv
 have h3 : (blk (2 * B) k l0).Pairwise (· < ·) := hlt.sublist ((List.take_sublist _ _).trans (List.drop_sublist _ _))
 rw [blk_double] at h3
 exact (List.pairwise_append.1 h3).2.2 u hu v hv
theorem rk_unique : ∀ {l m : List Nat}, RkS key l → RkS key m → l.Perm m → l = m
 | [], m, _, _, hp => hp.nil_eq
 | a :: l, [], _, _, hp => by have := hp.length_eq; simp at this
 | a :: l, b :: m, hl, hm, hp => by
  obtain ⟨h1, h2⟩ := List.pairwise_cons.1 hl
  obtain ⟨h3, h4⟩ := List.pairwise_cons.1 hm
  have hab : a = b := by
   have ha : a ∈ b :: m := hp.mem_iff.1 (by simp)
   have hb : b ∈ a :: l := hp.mem_iff.2 (by simp)
   rcases List.mem_cons.1 ha with rfl | ha
   ·rfl
   ·rcases List.mem_cons.1 hb with rfl | hb
    ·rfl
    ·have k1 := h1 b hb
     have k2 := h3 a ha
     unfold Rk at k1 k2; omega
  subst hab
  rw [rk_unique h2 h4 (List.Perm.cons_inv hp)]
end Go.Bn
end
