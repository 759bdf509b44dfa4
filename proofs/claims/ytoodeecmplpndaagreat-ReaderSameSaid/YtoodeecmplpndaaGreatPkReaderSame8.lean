/- Packed texts of a claim: what its theorem uses, joined. -/
import Derived.Test.YtoodeecmplpndaaGreatProg
import Derived.Test.YtoodeecmplpndaaGreatPkReaderSame7
section
set_option linter.unusedVariables false
set_option linter.unusedSimpArgs false
set_option maxHeartbeats 4000000
set_option maxRecDepth 20000
namespace Go.Bn
open Go Proofs
theorem St.keepF2 {B : Nat} {h0 hp : Heap} {r1 r2 r3 : Res} {F : List Res} (s : St B h0 hp (r1 :: r2 :: r3 :: F)) : St B h0 hp (r1 :: r2 :: F) :=
 (St.reF [r1, r2, r3] 3 s [2, 0, 1] (by decide)).tail
theorem bclass_spec {B p q m c a fr : Nat} {A : Option Addr} {l : List UInt8} {ls : List Nat} {F : List Res} {h0 : Heap} (st0 : St B h0 h0 (rdG q A m c a :: codeR p ls :: F)) (hok : lensOK ls) (hrB : ∀ h', Low B h0 h' → Rd h' A (l.map byteV)) (hl : l.length = m) (hm : m ≤ 1073741824) (ha : a ≤ 8 * m) (hfr : ls.length ≤ fr + 30) (hfr2 : fr ≤ 300) :
  Ret Tryz.prog 67 [.pointer (some ⟨q, 0, none⟩), .pointer (some ⟨p, 0, none⟩), nV fr] h0
   fun v h' => v = retVal [.agg (clsV (clsT ls fr (bitsB l) a).1).toArray, nV (clsT ls fr (bitsB l) a).2.2] ∧ St B h0 h' (rdG q A m c (clsT ls fr (bitsB l) a).2.1 :: codeR p ls :: F) := by
 have hbl := bitsB_length l
 have hC : clsT ls fr (bitsB l) a = _ := rfl
 unfold clsT at hC
 have hsm := takeC_small hok ((bitsB l).drop a)
 have hle := takeC_le ls ((bitsB l).drop a)
 have hsy := takeC_sym hok (bs := (bitsB l).drop a)
 rw [List.length_drop, hbl, hl] at hle
 obtain ⟨T, hT⟩ : ∃ T, takeC ls ((bitsB l).drop a) = T := ⟨_, rfl⟩
 rw [hT] at hC hsm hle hsy
 obtain ⟨C, hCe⟩ : ∃ C, clsT ls fr (bitsB l) a = C := ⟨_, rfl⟩
 rw [show clsT ls fr (bitsB l) a = C from hCe]
 unfold clsT at hCe
 rw [hT] at hCe
 clear hC
 rw [hbl, hl] at hCe
 have hok2 := hok.2.1
 refine ret_of_X Tryz.func67 rfl rfl fun w0 hw0 => ?_
 simp only [argE, Nat.zero_add, Nat.reduceAdd]
 have st := st0
 refine X_seq (X_reg ?_)
 refine XR_wa (opl_new rfl) rfl rfl rfl ?_
 rintro _ hp ⟨p6, rfl, hnew⟩
 replace st := st.new hnew
 replace st : St B h0 hp ([pt p6 92 (clsV Kls.nil), rdG q A m c a, codeR p ls] ++ F) := st
 replace st := St.reF _ 3 st [1, 2, 0] (by decide)
 simp only [List.map_cons, List.map_nil, getR, List.cons_append, List.nil_append] at st
 refine XA rfl rfl rfl (XR_nil (X_seq (X_reg (XV rfl rfl rfl (XV rfl rfl rfl ?_)))))
 refine XR_wa (opl_call (ctake_spec st.here hok (hrB _ st.low) hl (by omega) ha) rfl (by kernel_rfl)) rfl rfl rfl ?_
 rintro _ hp ⟨rfl, st2⟩
 rw [hT] at st2 ⊢
 replace st := st.trans st2
 clear st2
 refine XV rfl rfl rfl (XR_a (op_extract rfl rfl) rfl rfl (XR_a (op_extract rfl rfl) rfl rfl (XA rfl rfl rfl (XA rfl rfl rfl (XR_nil (X_seq (X_seq (X_reg (XV rfl rfl rfl ?_)))))))))
 refine XR_a (op_neq rfl rfl) rfl rfl ?_
 refine XV rfl rfl rfl ?_
 refine XR_if 23 rfl (fun h => ?_) (fun h => ?_)
 ·rw [if_pos (by omega)] at hCe
  subst hCe
  refine XR_no rfl rfl (XR_no rfl rfl (XR_no rfl rfl (XR_a (op_pick_t rfl rfl) rfl rfl (XR_nil (X_then rfl (X_seq (X_reg (XV rfl rfl rfl ?_))))))))
  refine XR_a (op_build (ps := [(0, nV T.1)]) (cs := (clsV ⟨T.1, 0, 0⟩).toArray) rfl rfl) rfl rfl ?_
  refine XV rfl rfl rfl ?_
  refine XR_wn (opl_store_whole (us := clsV ⟨T.1, 0, 0⟩) st 2 rfl rfl rfl rfl rfl (clsV_one _) rfl) rfl rfl fun _ hp st => ?_
  simp only [List.set_cons_zero, List.set_cons_succ] at st
  refine XA rfl rfl rfl (XR_nil ?_)
  refine X_ret (.cons (RV_agg (vs := clsV _) rfl rfl rfl (st.cells 2 rfl)) (.cons (.tmp rfl) .nil)) ?_
  refine ⟨rfl, ?_⟩
  exact St.keepF2 st
 ·refine XV rfl rfl rfl (XV rfl rfl rfl ?_)
  refine XR_a (op_lss rfl rfl) rfl rfl ?_
  refine XR_a (op_pick_f rfl rfl) rfl rfl (XR_nil ?_)
  refine X_if rfl (fun h => ?_) (fun h => ?_)
  ·rw [if_pos (by omega)] at hCe
   subst hCe
   refine X_seq (X_reg (XV rfl rfl rfl ?_))
   refine XR_a (op_build (ps := [(0, nV T.1)]) (cs := (clsV ⟨T.1, 0, 0⟩).toArray) rfl rfl) rfl rfl ?_
   refine XV rfl rfl rfl ?_
   refine XR_wn (opl_store_whole (us := clsV ⟨T.1, 0, 0⟩) st 2 rfl rfl rfl rfl rfl (clsV_one _) rfl) rfl rfl fun _ hp st => ?_
   simp only [List.set_cons_zero, List.set_cons_succ] at st
   refine XA rfl rfl rfl (XR_nil ?_)
   refine X_ret (.cons (RV_agg (vs := clsV _) rfl rfl rfl (st.cells 2 rfl)) (.cons (.tmp rfl) .nil)) ?_
   refine ⟨rfl, ?_⟩
   exact St.keepF2 st
  ·have hT0 : T.2.2 = 0 := by omega
   have hTl : T.1 < ls.length := (hsy hT0).1
   have hbc : bitsC (T.1 - fr) ≤ 13 := by unfold bitsC; split <;> omega
   rw [if_neg (by omega)] at hCe
   have hwd : wd 32 ((bitsC (T.1 - fr) : Nat) : Int) = bitsC (T.1 - fr) := wd_nat (by omega)
   refine X_skip (X_seq (X_reg (XV rfl rfl rfl (XV rfl rfl rfl ?_))))
   first | refine XR_a (op_subN rfl rfl (by omega) (by simp only [inK]; omega)) rfl rfl ?_ | refine XR_a (op_subI rfl rfl (by simp only [inK]; omega)) rfl rfl ?_ | refine XR_a (op_sub rfl rfl) rfl rfl ?_
   refine XR_wa (opl_call (sbase_yes (i := T.1 - fr) (by omega) (by omega) _) rfl (by kernel_rfl)) rfl rfl rfl ?_
   rintro _ _ ⟨rfl, rfl⟩
   refine XV rfl rfl rfl (XR_a (op_extract rfl rfl) rfl rfl (XR_a (op_extract rfl rfl) rfl rfl (XR_a (op_extract rfl rfl) rfl rfl (XA rfl rfl rfl (XA rfl rfl rfl (XA rfl rfl rfl (XR_nil (X_seq (X_reg ?_)))))))))
   refine XV rfl rfl rfl (XV rfl rfl rfl ?_)
   refine XR_wa (opl_call (rtake_spec (k := ((bitsC (T.1 - fr) : Nat) : Int)) st.here (hrB _ st.low) hl (by omega) (by omega)) rfl (by kernel_rfl)) rfl rfl rfl ?_
   rintro _ hp ⟨rfl, st2⟩
   rw [hwd] at st2 ⊢
   replace st := st.trans st2
   clear st2
   refine XV rfl rfl rfl (XR_a (op_extract rfl rfl) rfl rfl (XR_a (op_extract rfl rfl) rfl rfl (XA rfl rfl rfl (XA rfl rfl rfl (XR_nil (X_seq (X_seq (X_reg (XV rfl rfl rfl ?_)))))))))
   first | refine XR_a (op_notd rfl) rfl rfl ?_ | refine XR_a (op_not rfl) rfl rfl ?_
   refine XR_nil ?_
   refine X_if rfl (fun h => ?_) (fun h => ?_)
   ·have hn : ¬ bitsC (T.1 - fr) ≤ 8 * m - (a + T.2.1) := by simpa using h
    rw [if_neg hn] at st
    rw [if_pos (by omega)] at hCe
    subst hCe
    refine X_seq (X_reg ?_)
    refine XR_a (op_build (ps := []) (cs := (clsV Kls.nil).toArray) rfl rfl) rfl rfl ?_
    refine XR_wn (opl_store_whole (us := clsV Kls.nil) st 2 rfl rfl rfl rfl rfl (clsV_one _) rfl) rfl rfl fun _ hp st => ?_
    simp only [List.set_cons_zero, List.set_cons_succ] at st
    refine XA rfl rfl rfl (XR_nil ?_)
    refine X_ret (.cons (RV_agg (vs := clsV _) rfl rfl rfl (st.cells 2 rfl)) (.cons (.tmp rfl) .nil)) ?_
    exact ⟨rfl, St.keepF2 st⟩
   ·have hn : bitsC (T.1 - fr) ≤ 8 * m - (a + T.2.1) := by simpa using h
    rw [if_pos hn] at st
    rw [if_neg (by omega)] at hCe
    subst hCe
    have hnl := numB_lt (bitsB l) (a + T.2.1) (bitsC (T.1 - fr))
    refine X_skip (X_seq (X_reg (XV rfl rfl rfl (XV rfl rfl rfl (XV rfl rfl rfl ?_)))))
    refine XR_a (op_build (ps := [(0, nV T.1), (1, nV (bitsC (T.1 - fr))), (2, .int .u32 ((numB (bitsB l) (a + T.2.1) (bitsC (T.1 - fr)) : Nat) : Int))]) (cs := (clsV ⟨T.1, bitsC (T.1 - fr), (numB (bitsB l) (a + T.2.1) (bitsC (T.1 - fr)) : Nat)⟩).toArray) (by rw [if_pos hn]; rfl) rfl) rfl rfl ?_
    refine XR_wn (opl_store_whole (us := clsV ⟨T.1, bitsC (T.1 - fr), (numB (bitsB l) (a + T.2.1) (bitsC (T.1 - fr)) : Nat)⟩) st 2 rfl rfl rfl rfl rfl (clsV_one _) rfl) rfl rfl fun _ hp st => ?_
    simp only [List.set_cons_zero, List.set_cons_succ] at st
    refine XA rfl rfl rfl (XR_nil ?_)
    refine X_ret (.cons (RV_agg (vs := clsV _) rfl rfl rfl (st.cells 2 rfl)) (.cons (.tmp rfl) .nil)) ?_
    exact ⟨rfl, St.keepF2 st⟩
theorem btoken_spec {B p1 p2 q m c a : Nat} {A : Option Addr} {l : List UInt8} {la lb : List Nat} {F : List Res} {h0 : Heap} (st0 : St B h0 h0 (rdG q A m c a :: codeR p1 la :: codeR p2 lb :: F)) (oka : lensOK la) (okb : lensOK lb) (na : la.length = 273) (nb : lb.length = 30) (hrB : ∀ h', Low B h0 h' → Rd h' A (l.map byteV)) (hl : l.length = m) (hm : m ≤ 1073741824) (ha : a ≤ 8 * m) :
  Ret Tryz.prog 34 [.pointer (some ⟨q, 0, none⟩), .pointer (some ⟨p1, 0, none⟩), .pointer (some ⟨p2, 0, none⟩)] h0
   fun v h' => v = retVal [.agg (tokV (nextT la lb (bitsB l) a).1).toArray, .bool (!(nextT la lb (bitsB l) a).2.2.1), nV (nextT la lb (bitsB l) a).2.2.2] ∧ St B h0 h' (rdG q A m c (nextT la lb (bitsB l) a).2.1 :: codeR p1 la :: codeR p2 lb :: F) := by
 have hbl := bitsB_length l
 obtain ⟨N, hN⟩ : ∃ N, nextT la lb (bitsB l) a = N := ⟨_, rfl⟩
 have hC1 := clsT_num (fr := 257) (bs := bitsB l) (a := a) oka (by omega) (by omega)
 have hA1 := clsT_at (fr := 257) (bs := bitsB l) (a := a) oka (by omega)
 rw [hN]
 unfold nextT at hN
 obtain ⟨C, hC⟩ : ∃ C, clsT la 257 (bitsB l) a = C := ⟨_, rfl⟩
 rw [hC] at hN hC1 hA1
 have hC2 := clsT_num (fr := 0) (bs := bitsB l) (a := C.2.1) okb (by omega) (by omega)
 obtain ⟨D, hD⟩ : ∃ D, clsT lb 0 (bitsB l) C.2.1 = D := ⟨_, rfl⟩
 rw [hD] at hN hC2
 refine ret_of_X Tryz.func34 rfl rfl fun w0 hw0 => ?_
 simp only [argE, Nat.zero_add, Nat.reduceAdd]
 have st := st0
 refine X_seq (X_reg ?_)
 refine XR_wa (opl_new rfl) rfl rfl rfl ?_
 rintro _ hp ⟨p6, rfl, hnew⟩
 replace st := st.new hnew
 replace st : St B h0 hp ([pt p6 65 (tokV Tok.nil), rdG q A m c a, codeR p1 la, codeR p2 lb] ++ F) := st
 replace st := St.reF _ 4 st [1, 2, 3, 0] (by decide)
 simp only [List.map_cons, List.map_nil, getR, List.cons_append, List.nil_append] at st
 refine XA rfl rfl rfl (XA rfl rfl rfl (XR_nil (X_seq (X_reg (XV rfl rfl rfl (XV rfl rfl rfl ?_))))))
 refine XR_wa (opl_call (bclass_spec (fr := 257) st.here oka (fun h' hh => hrB h' (st.low.trans hh)) hl hm ha (by omega) (by omega)) rfl (by kernel_rfl)) rfl rfl rfl ?_
 rintro _ hp ⟨rfl, st2⟩
 rw [hC] at st2 ⊢
 replace st := st.trans st2
 clear st2
 refine XV rfl rfl rfl (XR_a (op_extract rfl rfl) rfl rfl (XR_a (op_extract rfl rfl) rfl rfl ?_))
 refine XR_wa (opl_new rfl) rfl rfl rfl ?_
 rintro _ hp ⟨p9, rfl, hnew⟩
 replace st := st.new hnew
 replace st : St B h0 hp ([pt p9 92 (clsV Kls.nil), rdG q A m c C.2.1, codeR p1 la, codeR p2 lb, pt p6 65 (tokV Tok.nil)] ++ F) := st
 replace st := St.reF _ 5 st [1, 2, 3, 4, 0] (by decide)
 simp only [List.map_cons, List.map_nil, getR, List.cons_append, List.nil_append] at st
 refine XR_wn (opl_store_whole (us := clsV C.1) st 4 rfl rfl rfl rfl rfl (clsV_one _) rfl) rfl rfl fun _ hp st => ?_
 simp only [List.set_cons_zero, List.set_cons_succ] at st
 refine XA rfl rfl rfl (XR_nil (X_seq (X_seq (X_reg (XV rfl rfl rfl ?_)))))
 refine XR_a (op_neq rfl rfl) rfl rfl ?_
 refine XV rfl rfl rfl ?_
 refine XR_if 22 rfl (fun h => ?_) (fun h => ?_)
 ·rw [if_pos (by omega)] at hN
  subst hN
  refine XR_no rfl rfl (XR_no rfl rfl (XR_no rfl rfl (XR_a (op_pick_t rfl rfl) rfl rfl (XR_nil (X_then rfl (X_seq (X_reg ?_)))))))
  refine XR_a (op_build (ps := []) (cs := (tokV Tok.nil).toArray) rfl rfl) rfl rfl ?_
  refine XV rfl rfl rfl ?_
  refine XR_wn (opl_store_whole (us := tokV Tok.nil) st 3 rfl rfl rfl rfl rfl (tokV_one _) rfl) rfl rfl fun _ hp st => ?_
  simp only [List.set_cons_zero, List.set_cons_succ] at st
  refine XA rfl rfl rfl (XA rfl rfl rfl (XR_nil ?_))
  refine X_ret (.cons (RV_agg (vs := tokV _) rfl rfl rfl (st.cells 3 rfl)) (.cons (.tmp rfl) (.cons (.tmp rfl) .nil))) ?_
  exact ⟨rfl, (St.reF [_, _, _, _, _] 5 st [3, 4, 0, 1, 2] (by decide)).tail.tail⟩
 ·first | refine XR_a (op_field0 rfl rfl) rfl rfl ?_ | refine XR_a (op_fieldn rfl rfl) rfl rfl ?_
  refine XR_a (op_ld (st.cell 4 (i := 0) rfl rfl) rfl rfl rfl) rfl rfl ?_
  refine XR_a (op_eql rfl rfl) rfl rfl ?_
  refine XR_a (op_pick_f rfl rfl) rfl rfl (XR_nil ?_)
  refine X_if rfl (fun h => ?_) (fun h => ?_)
  ·rw [if_pos (by omega)] at hN
   subst hN
   refine X_seq (X_reg ?_)
   refine XR_a (op_build (ps := []) (cs := (tokV Tok.nil).toArray) rfl rfl) rfl rfl ?_
   refine XV rfl rfl rfl ?_
   refine XR_wn (opl_store_whole (us := tokV Tok.nil) st 3 rfl rfl rfl rfl rfl (tokV_one _) rfl) rfl rfl fun _ hp st => ?_
   simp only [List.set_cons_zero, List.set_cons_succ] at st
   refine XA rfl rfl rfl (XA rfl rfl rfl (XR_nil ?_))
   refine X_ret (.cons (RV_agg (vs := tokV _) rfl rfl rfl (st.cells 3 rfl)) (.cons (.tmp rfl) (.cons (.tmp rfl) .nil))) ?_
   exact ⟨rfl, (St.reF [_, _, _, _, _] 5 st [3, 4, 0, 1, 2] (by decide)).tail.tail⟩
  ·rw [if_neg (by omega)] at hN
   refine X_skip (X_seq (X_reg ?_))
   refine XR_a (op_ldA (vs := clsV C.1) (st.cells 4 rfl) rfl rfl rfl rfl) rfl rfl ?_
   refine XR_a (op_build (ps := [(0, .agg (clsV C.1).toArray)]) (cs := (syV ⟨C.1, Kls.nil, false⟩).toArray) rfl rfl) rfl rfl ?_
   refine XR_wa (opl_new rfl) rfl rfl rfl ?_
   rintro _ hp ⟨p11, rfl, hnew⟩
   replace st := st.new hnew
   replace st : St B h0 hp ([pt p11 94 (syV Sy.nil), rdG q A m c C.2.1, codeR p1 la, codeR p2 lb, pt p6 65 (tokV Tok.nil), pt p9 92 (clsV C.1)] ++ F) := st
   replace st := St.reF _ 6 st [1, 2, 3, 4, 5, 0] (by decide)
   simp only [List.map_cons, List.map_nil, getR, List.cons_append, List.nil_append] at st
   refine XR_wn (opl_store_whole (us := syV ⟨C.1, Kls.nil, false⟩) st 5 rfl rfl rfl rfl rfl (syV_one _) rfl) rfl rfl fun _ hp st => ?_
   simp only [List.set_cons_zero, List.set_cons_succ] at st
   refine XR_nil (X_seq (X_seq (X_reg ?_)))
   first | refine XR_a (op_field0 rfl rfl) rfl rfl ?_ | refine XR_a (op_fieldn rfl rfl) rfl rfl ?_
   refine XR_a (op_ld (st.cell 4 (i := 0) rfl rfl) rfl rfl rfl) rfl rfl ?_
   refine XR_a (op_gtr rfl rfl) rfl rfl ?_
   refine XR_nil ?_
   refine X_if rfl (fun h => ?_) (fun h => ?_)
   ·rw [if_pos (by omega)] at hN
    replace st := St.reF [_, _, _] 3 st [0, 2, 1] (by decide)
    simp only [List.map_cons, List.map_nil, getR, List.cons_append, List.nil_append] at st
    refine X_seq (X_seq (X_reg (XV rfl rfl rfl (XV rfl rfl rfl ?_))))
    refine XR_wa (opl_call (bclass_spec (fr := 0) st.here okb (fun h' hh => hrB h' (st.low.trans hh)) hl hm (by omega) (by omega) (by omega)) rfl (by kernel_rfl)) rfl rfl rfl ?_
    rintro _ hp ⟨rfl, st2⟩
    rw [hD] at st2 ⊢
    replace st := st.trans st2
    clear st2
    replace st := St.reF [_, _, _] 3 st [0, 2, 1] (by decide)
    simp only [List.map_cons, List.map_nil, getR, List.cons_append, List.nil_append] at st
    refine XV rfl rfl rfl (XR_a (op_extract rfl rfl) rfl rfl (XR_a (op_extract rfl rfl) rfl rfl ?_))
    first | refine XR_a (op_field0 rfl rfl) rfl rfl ?_ | refine XR_a (op_fieldn rfl rfl) rfl rfl ?_
    refine XR_wn (opl_store_pts (us := clsV D.1) st 5 rfl rfl rfl rfl rfl (clsV_one _) (by show 3 + 3 ≤ 7; omega)) rfl rfl fun _ hp st => ?_
    simp only [List.set_cons_zero, List.set_cons_succ] at st
    replace st : St B h0 hp (rdG q A m c D.2.1 :: codeR p1 la :: codeR p2 lb :: pt p6 65 (tokV Tok.nil) :: pt p9 92 (clsV C.1) :: pt p11 94 (syV ⟨C.1, D.1, false⟩) :: F) := st
    refine XA rfl rfl rfl (XR_nil (X_seq (X_reg (XV rfl rfl rfl ?_))))
    refine XR_a (op_neq rfl rfl) rfl rfl ?_
    refine XR_nil ?_
    refine X_if rfl (fun h => ?_) (fun h => ?_)
    ·rw [if_pos (by omega)] at hN
     subst hN
     refine X_seq (X_reg ?_)
     refine XR_a (op_build (ps := []) (cs := (tokV Tok.nil).toArray) rfl rfl) rfl rfl ?_
     refine XV rfl rfl rfl ?_
     refine XR_wn (opl_store_whole (us := tokV Tok.nil) st 3 rfl rfl rfl rfl rfl (tokV_one _) rfl) rfl rfl fun _ hp st => ?_
     simp only [List.set_cons_zero, List.set_cons_succ] at st
     refine XA rfl rfl rfl (XA rfl rfl rfl (XR_nil ?_))
     refine X_ret (.cons (RV_agg (vs := tokV _) rfl rfl rfl (st.cells 3 rfl)) (.cons (.tmp rfl) (.cons (.tmp rfl) .nil))) ?_
     exact ⟨rfl, (St.reF [_, _, _, _, _, _] 6 st [3, 4, 5, 0, 1, 2] (by decide)).tail.tail.tail⟩
    ·rw [if_neg (by omega)] at hN
     obtain ⟨J, hJ⟩ : ∃ J, joinT ⟨C.1, D.1, true⟩ = J := ⟨_, rfl⟩
     rw [hJ] at hN
     refine X_skip (X_reg ?_)
     first | refine XR_a (op_field0 rfl rfl) rfl rfl ?_ | refine XR_a (op_fieldn rfl rfl) rfl rfl ?_
     refine XR_wn (opl_store_pt st 5 rfl rfl rfl rfl rfl (rfl)) rfl rfl fun _ hp st => ?_
     simp only [List.set_cons_zero, List.set_cons_succ] at st
     refine XR_nil (X_seq (X_reg ?_))
     refine XR_a (op_ldA (vs := syV ⟨C.1, D.1, true⟩) (st.cells 5 rfl) rfl rfl rfl rfl) rfl rfl ?_
     refine XR_wa (opl_call (sjoin_spec (r := ⟨C.1, D.1, true⟩) ⟨hC1.2.2.1, hC1.2.2.2⟩ ⟨hC2.2.2.1, hC2.2.2.2⟩ _) rfl (by kernel_rfl)) rfl rfl rfl ?_
     rintro _ hp ⟨rfl, hx5⟩
     replace st := st.ext hx5
     rw [hJ]
     refine XV rfl rfl rfl (XR_a (op_extract rfl rfl) rfl rfl (XR_a (op_extract rfl rfl) rfl rfl ?_))
     refine XR_wa (opl_new rfl) rfl rfl rfl ?_
     rintro _ hp ⟨p12, rfl, hnew⟩
     replace st := st.new hnew
     replace st := St.reF [_, _, _, _, _, _, _] 7 st [1, 2, 3, 4, 0, 5, 6] (by decide)
     simp only [List.map_cons, List.map_nil, getR, List.cons_append, List.nil_append] at st
     refine XR_wn (opl_store_whole (us := tokV J.1) st 4 rfl rfl rfl rfl rfl (tokV_one _) rfl) rfl rfl fun _ hp st => ?_
     simp only [List.set_cons_zero, List.set_cons_succ] at st
     refine XA rfl rfl rfl (XR_nil (X_seq (X_seq (X_reg (XV rfl rfl rfl ?_)))))
     first | refine XR_a (op_notd rfl) rfl rfl ?_ | refine XR_a (op_not rfl) rfl rfl ?_
     refine XR_nil ?_
     refine X_cond rfl (fun h => ?_) (fun h => ?_)
     ·rw [if_neg (by simpa using h)] at hN
      subst hN
      refine X_seq (X_reg ?_)
      refine XR_a (op_build (ps := []) (cs := (tokV Tok.nil).toArray) rfl rfl) rfl rfl ?_
      refine XR_wn (opl_store_whole (us := tokV Tok.nil) st 3 rfl rfl rfl rfl rfl (tokV_one _) rfl) rfl rfl fun _ hp st => ?_
      simp only [List.set_cons_zero, List.set_cons_succ] at st
      refine XA rfl rfl rfl (XA rfl rfl rfl (XR_nil ?_))
      refine X_ret (.cons (RV_agg (vs := tokV _) rfl rfl rfl (st.cells 3 rfl)) (.cons (.tmp rfl) (.cons (.tmp rfl) .nil))) ?_
      exact ⟨rfl, (St.reF [_, _, _, _, _, _, _] 7 st [3, 4, 5, 6, 0, 1, 2] (by decide)).tail.tail.tail.tail⟩
     ·rw [if_pos (by simpa using h)] at hN
      subst hN
      refine X_skip (X_seq (X_reg ?_))
      refine XR_a (op_ldA (vs := tokV J.1) (st.cells 4 rfl) rfl rfl rfl rfl) rfl rfl ?_
      refine XR_wn (opl_store_whole (us := tokV J.1) st 3 rfl rfl rfl rfl rfl (tokV_one _) rfl) rfl rfl fun _ hp st => ?_
      simp only [List.set_cons_zero, List.set_cons_succ] at st
      refine XA rfl rfl rfl (XA rfl rfl rfl (XR_nil ?_))
      refine X_ret (.cons (RV_agg (vs := tokV _) rfl rfl rfl (st.cells 3 rfl)) (.cons (.tmp rfl) (.cons (.tmp rfl) .nil))) ?_
      exact ⟨rfl, (St.reF [_, _, _, _, _, _, _] 7 st [3, 4, 5, 6, 0, 1, 2] (by decide)).tail.tail.tail.tail⟩
   ·rw [if_neg (by omega)] at hN
    obtain ⟨J, hJ⟩ : ∃ J, joinT ⟨C.1, Kls.nil, false⟩ = J := ⟨_, rfl⟩
    rw [hJ] at hN
    refine X_skip (X_seq (X_reg ?_))
    refine XR_a (op_ldA (vs := syV ⟨C.1, Kls.nil, false⟩) (st.cells 5 rfl) rfl rfl rfl rfl) rfl rfl ?_
    refine XR_wa (opl_call (sjoin_spec (r := ⟨C.1, Kls.nil, false⟩) ⟨hC1.2.2.1, hC1.2.2.2⟩ ⟨Int.le_refl 0, by show (0 : Int) < 4294967296; omega⟩ _) rfl (by kernel_rfl)) rfl rfl rfl ?_
    rintro _ hp ⟨rfl, hx5⟩
    replace st := st.ext hx5
    rw [hJ]
    refine XV rfl rfl rfl (XR_a (op_extract rfl rfl) rfl rfl (XR_a (op_extract rfl rfl) rfl rfl ?_))
    refine XR_wa (opl_new rfl) rfl rfl rfl ?_
    rintro _ hp ⟨p12, rfl, hnew⟩
    replace st := st.new hnew
    replace st := St.reF [_, _, _, _, _, _, _] 7 st [1, 2, 3, 4, 0, 5, 6] (by decide)
    simp only [List.map_cons, List.map_nil, getR, List.cons_append, List.nil_append] at st
    refine XR_wn (opl_store_whole (us := tokV J.1) st 4 rfl rfl rfl rfl rfl (tokV_one _) rfl) rfl rfl fun _ hp st => ?_
    simp only [List.set_cons_zero, List.set_cons_succ] at st
    refine XA rfl rfl rfl (XR_nil (X_seq (X_seq (X_reg (XV rfl rfl rfl ?_)))))
    first | refine XR_a (op_notd rfl) rfl rfl ?_ | refine XR_a (op_not rfl) rfl rfl ?_
    refine XR_nil ?_
    refine X_cond rfl (fun h => ?_) (fun h => ?_)
    ·rw [if_neg (by simpa using h)] at hN
     subst hN
     refine X_seq (X_reg ?_)
     refine XR_a (op_build (ps := []) (cs := (tokV Tok.nil).toArray) rfl rfl) rfl rfl ?_
     refine XR_wn (opl_store_whole (us := tokV Tok.nil) st 3 rfl rfl rfl rfl rfl (tokV_one _) rfl) rfl rfl fun _ hp st => ?_
     simp only [List.set_cons_zero, List.set_cons_succ] at st
     refine XA rfl rfl rfl (XA rfl rfl rfl (XR_nil ?_))
     refine X_ret (.cons (RV_agg (vs := tokV _) rfl rfl rfl (st.cells 3 rfl)) (.cons (.tmp rfl) (.cons (.tmp rfl) .nil))) ?_
     exact ⟨rfl, (St.reF [_, _, _, _, _, _, _] 7 st [3, 4, 5, 6, 0, 1, 2] (by decide)).tail.tail.tail.tail⟩
    ·rw [if_pos (by simpa using h)] at hN
     subst hN
     refine X_skip (X_seq (X_reg ?_))
     refine XR_a (op_ldA (vs := tokV J.1) (st.cells 4 rfl) rfl rfl rfl rfl) rfl rfl ?_
     refine XR_wn (opl_store_whole (us := tokV J.1) st 3 rfl rfl rfl rfl rfl (tokV_one _) rfl) rfl rfl fun _ hp st => ?_
     simp only [List.set_cons_zero, List.set_cons_succ] at st
     refine XA rfl rfl rfl (XA rfl rfl rfl (XR_nil ?_))
     refine X_ret (.cons (RV_agg (vs := tokV _) rfl rfl rfl (st.cells 3 rfl)) (.cons (.tmp rfl) (.cons (.tmp rfl) .nil))) ?_
     exact ⟨rfl, (St.reF [_, _, _, _, _, _, _] 7 st [3, 4, 5, 6, 0, 1, 2] (by decide)).tail.tail.tail.tail⟩
theorem bcodes_spec {B q m c a : Nat} {A : Option Addr} {l : List UInt8} {F : List Res} {h0 : Heap} (st0 : St B h0 h0 (rdG q A m c a :: F)) (hrB : ∀ h', Low B h0 h' → Rd h' A (l.map byteV)) (hl : l.length = m) (hm : m ≤ 1073741824) (ha : a ≤ 8 * m) :
  Ret Tryz.prog 33 [.pointer (some ⟨q, 0, none⟩)] h0 fun v h' => ∃ w1 w2 a', v = retVal [w1, w2, nV (codesT (bitsB l) a).1] ∧ a' ≤ 8 * m ∧ St B h0 h' (rdG q A m c a' :: F) ∧
   ((codesT (bitsB l) a).1 = 0 → a' = (codesT (bitsB l) a).2.2.2 ∧ ∃ p1 p2, w1 = .pointer (some ⟨p1, 0, none⟩) ∧ w2 = .pointer (some ⟨p2, 0, none⟩) ∧ St B h0 h' (rdG q A m c a' :: codeR p1 (codesT (bitsB l) a).2.1 :: codeR p2 (codesT (bitsB l) a).2.2.1 :: F)) := by
 obtain ⟨N, hN⟩ : ∃ N, codesT (bitsB l) a = N := ⟨_, rfl⟩
 rw [hN]
 unfold codesT at hN
 obtain ⟨X, hX⟩ : ∃ X, takeR (bitsB l) a (okR (bitsB l) a) = X := ⟨_, rfl⟩
 rw [hX] at hN
 obtain ⟨Y, hY⟩ : ∃ Y, takeR (bitsB l) X.2.1 (okR (bitsB l) X.2.1) = Y := ⟨_, rfl⟩
 rw [hY] at hN
 have hmn : ∀ z : List Nat, z.map nV = (castI z).map iV := fun z => by unfold castI; rw [List.map_map]; rfl
 refine ret_of_X Tryz.func33 rfl rfl fun w0 hw0 => ?_
 simp only [argE, Nat.zero_add, Nat.reduceAdd]
 have st := st0
 refine X_seq (X_reg (XA rfl rfl rfl (XA rfl rfl rfl (XA rfl rfl rfl (XR_nil (X_seq (X_reg (XV rfl rfl rfl ?_))))))))
 refine XR_wa (opl_call (rtake_runs st.here (fun h' hh => hrB h' (st.low.trans hh)) hl hm ha) rfl (by kernel_rfl)) rfl rfl rfl ?_
 rintro _ hp1 ⟨w1, a1, rfl, ha1, hat, st⟩
 rw [hX] at hat st ⊢
 obtain ⟨A1, n1, c1, rfl, hl1, _⟩ := st.row 0 rfl
 rw [List.length_map, Nat.mul_one] at hl1
 refine XV rfl rfl rfl (XR_a (op_extract rfl rfl) rfl rfl (XR_a (op_extract rfl rfl) rfl rfl (XA rfl rfl rfl (XA rfl rfl rfl (XR_nil (X_seq (X_seq (X_reg (XV rfl rfl rfl ?_)))))))))
 refine XR_a (op_neq rfl rfl) rfl rfl ?_
 refine XR_nil ?_
 refine X_if rfl (fun h => ?_) (fun h => ?_)
 ·rw [if_pos (by omega)] at hN
  subst hN
  refine X_seq (X_reg (XV rfl rfl rfl (XA rfl rfl rfl (XA rfl rfl rfl (XA rfl rfl rfl (XR_nil ?_))))))
  refine X_ret (.cons (.tmp rfl) (.cons (.tmp rfl) (.cons (.tmp rfl) .nil))) ?_
  exact ⟨_, _, a1, rfl, ha1, st.tail, fun h9 => absurd h9 (by simp only; omega)⟩
 ·rw [if_neg (by omega)] at hN
  obtain rfl := hat (by omega)
  replace st := st.perm (List.Perm.swap _ _ _)
  refine X_skip (X_seq (X_reg (XV rfl rfl rfl ?_)))
  refine XR_wa (opl_call (rtake_runs st.here (fun h' hh => hrB h' (st.low.trans hh)) hl hm ha1) rfl (by kernel_rfl)) rfl rfl rfl ?_
  rintro _ hp2 ⟨w2, a2, rfl, ha2, hat2, st2⟩
  rw [hY] at hat2 st2 ⊢
  replace st := st.trans st2
  clear st2
  obtain ⟨A2, n2, c2, rfl, hl2, _⟩ := st.row 0 rfl
  rw [List.length_map, Nat.mul_one] at hl2
  refine XV rfl rfl rfl (XR_a (op_extract rfl rfl) rfl rfl (XR_a (op_extract rfl rfl) rfl rfl (XA rfl rfl rfl (XA rfl rfl rfl (XR_nil (X_seq (X_block (X_seq (X_reg ?_)))))))))
  refine XV rfl rfl rfl ?_
  refine XR_a (op_neq rfl rfl) rfl rfl ?_
  refine XA rfl rfl rfl (XR_nil ?_)
  refine X_if rfl (fun h => ?_) (fun h => ?_)
  ·rw [if_pos (by omega)] at hN
   subst hN
   refine X_seq (X_reg (XV rfl rfl rfl (XA rfl rfl rfl (XA rfl rfl rfl (XA rfl rfl rfl (XR_nil ?_))))))
   refine X_ret (.cons (.tmp rfl) (.cons (.tmp rfl) (.cons (.tmp rfl) .nil))) ?_
   exact ⟨_, _, a2, rfl, ha2, (St.reF [_, _, _] 3 st [0, 2, 1] (by decide)).tail.tail, fun h9 => absurd h9 (by simp only; omega)⟩
  ·rw [if_neg (by omega)] at hN
   obtain rfl := hat2 (by omega)
   refine X_seq (X_reg (XV rfl rfl rfl ?_))
   refine XR_a (op_len rfl rfl rfl) rfl rfl ?_
   refine XR_a (op_neq rfl rfl) rfl rfl ?_
   refine XV rfl rfl rfl ?_
   refine XR_if 28 rfl (fun h => ?_) (fun h => ?_)
   ·rw [if_pos (by omega)] at hN
    subst hN
    refine XR_no rfl rfl (XR_no rfl rfl (XR_no rfl rfl (XR_a (op_pick_t rfl rfl) rfl rfl (XA rfl rfl rfl (XR_nil (X_then rfl (X_seq (X_reg (XA rfl rfl rfl ?_)))))))))
    refine XA rfl rfl rfl (XA rfl rfl rfl (XR_nil ?_))
    refine X_ret (.cons (.tmp rfl) (.cons (.tmp rfl) (.cons (.tmp rfl) .nil))) ?_
    exact ⟨_, _, _, rfl, ha2, (St.reF [_, _, _] 3 st [0, 2, 1] (by decide)).tail.tail, fun h9 => absurd h9 (by decide)⟩
   ·refine XV rfl rfl rfl ?_
    refine XR_a (op_len rfl rfl rfl) rfl rfl ?_
    refine XR_a (op_neq rfl rfl) rfl rfl ?_
    refine XR_a (op_pick_f rfl rfl) rfl rfl (XA rfl rfl rfl (XR_nil ?_))
    refine X_if rfl (fun h => ?_) (fun h => ?_)
    ·rw [if_pos (by omega)] at hN
     subst hN
     refine X_seq (X_reg (XA rfl rfl rfl (XA rfl rfl rfl (XA rfl rfl rfl (XR_nil ?_)))))
     refine X_ret (.cons (.tmp rfl) (.cons (.tmp rfl) (.cons (.tmp rfl) .nil))) ?_
     exact ⟨_, _, _, rfl, ha2, (St.reF [_, _, _] 3 st [0, 2, 1] (by decide)).tail.tail, fun h9 => absurd h9 (by decide)⟩
    ·rw [if_neg (by omega)] at hN
     refine X_skip (X_blk (X_seq (X_seq (X_reg (XV rfl rfl rfl ?_)))))
     refine XR_wa (opl_call (cnew_spec (li := castI X.1) (by rw [← hmn]; exact (st.rdS 2 rfl).2) (by unfold castI; rw [List.length_map]; exact hl1) (by omega)) rfl (by kernel_rfl)) rfl rfl rfl ?_
     rintro _ hp3 ⟨w3, rfl, hx3, hy3, hz3⟩
     rw [castI_toNat] at hy3
     refine XV rfl rfl rfl (XR_a (op_extract rfl rfl) rfl rfl (XR_a (op_extract rfl rfl) rfl rfl (XA rfl rfl rfl (XA rfl rfl rfl (XR_nil (X_seq (X_reg (XV rfl rfl rfl ?_))))))))
     refine XR_a (op_neq rfl rfl) rfl rfl ?_
     refine XR_nil ?_
     refine X_if rfl (fun h => ?_) (fun h => ?_)
     ·have hR1 : ¬ rightC (castI X.1) := fun hh => absurd (errC_zero.2 hh) h
      rw [if_pos (.inl hR1)] at hN
      subst hN
      replace st := st.ext hx3
      refine X_seq (X_reg (XV rfl rfl rfl (XA rfl rfl rfl (XA rfl rfl rfl (XA rfl rfl rfl (XR_nil ?_))))))
      refine X_ret (.cons (.tmp rfl) (.cons (.tmp rfl) (.cons (.tmp rfl) .nil))) ?_
      rw [show errC (castI X.1) = 13 by unfold errC; rw [if_neg hR1]]
      exact ⟨_, _, _, rfl, ha2, (St.reF [_, _, _] 3 st [0, 2, 1] (by decide)).tail.tail, fun h9 => absurd h9 (by decide)⟩
     ·have hR1 : rightC (castI X.1) := errC_zero.1 (Classical.not_not.1 h)
      obtain ⟨p1, rfl, st3⟩ := hy3 hR1
      have stx := st.ext hx3
      replace st := st.join st3
      simp only [List.cons_append, List.nil_append] at st
      refine X_skip (X_seq (X_reg (XV rfl rfl rfl ?_)))
      refine XR_wa (opl_call (cnew_spec (li := castI Y.1) (by rw [← hmn]; exact (st.rdS 1 rfl).2) (by unfold castI; rw [List.length_map]; exact hl2) (by omega)) rfl (by kernel_rfl)) rfl rfl rfl ?_
      rintro _ hp4 ⟨w4, rfl, hx4, hy4, hz4⟩
      rw [castI_toNat] at hy4
      refine XV rfl rfl rfl (XR_a (op_extract rfl rfl) rfl rfl (XR_a (op_extract rfl rfl) rfl rfl (XA rfl rfl rfl (XA rfl rfl rfl (XR_nil (X_seq (X_reg (XV rfl rfl rfl (XV rfl rfl rfl ?_)))))))))
      refine XV rfl rfl rfl (XA rfl rfl rfl (XA rfl rfl rfl (XA rfl rfl rfl (XR_nil ?_))))
      refine X_ret (.cons (.tmp rfl) (.cons (.tmp rfl) (.cons (.tmp rfl) .nil))) ?_
      by_cases hR2 : rightC (castI Y.1)
      ·rw [if_neg (by rintro (h | h) <;> exact h (by assumption))] at hN
       subst hN
       obtain ⟨p2, rfl, st4⟩ := hy4 hR2
       have sty := (St.reF [_, _, _] 3 (stx.ext hx4) [0, 2, 1] (by decide)).tail.tail
       replace st := st.join st4
       simp only [List.cons_append, List.nil_append] at st
       replace st := (St.reF [_, _, _, _, _] 5 st [2, 4, 3, 1, 0] (by decide)).tail.tail
       rw [show errC (castI Y.1) = 0 by unfold errC; rw [if_pos hR2]]
       exact ⟨_, _, _, rfl, ha2, sty, fun _ => ⟨rfl, p1, p2, rfl, rfl, st⟩⟩
      ·rw [if_pos (.inr hR2)] at hN
       subst hN
       rw [show errC (castI Y.1) = 13 by unfold errC; rw [if_neg hR2]]
       exact ⟨_, _, _, rfl, ha2, (St.reF [_, _, _] 3 (stx.ext hx4) [0, 2, 1] (by decide)).tail.tail, fun h9 => absurd h9 (by decide)⟩
theorem btake_spec {B q m c : Nat} {most : Int} {A : Option Addr} {l : List UInt8} {F : List Res} {h0 : Heap} (st0 : St B h0 h0 (rdG q A m c 0 :: F)) (hrB : ∀ h', Low B h0 h' → Rd h' A (l.map byteV)) (hl : l.length = m) (hm : m ≤ 1048576) (hmo : inK .i64 most) :
  Ret Tryz.prog 11 [.pointer (some ⟨q, 0, none⟩), .int .i64 most] h0 fun v h' => ∃ w a', v = retVal [w, nV (blockT (bitsB l) most).2.2.2] ∧ a' ≤ 8 * m ∧ ((blockT (bitsB l) most).2.2.2 = 0 → a' = (blockT (bitsB l) most).2.2.1) ∧
   St B h0 h' (rdG q A m c a' :: row 65 3 w ((blockT (bitsB l) most).1.flatMap tokV) :: F) := by
 have hbl := bitsB_length l
 have hok := codesT_ok (bs := bitsB l) (a := 0)
 obtain ⟨N, hN⟩ : ∃ N, blockT (bitsB l) most = N := ⟨_, rfl⟩
 rw [hN]
 unfold blockT at hN
 obtain ⟨K, hK⟩ : ∃ K, codesT (bitsB l) 0 = K := ⟨_, rfl⟩
 rw [hK] at hN hok
 have bad : ∀ e, N = ([], 0, 0, e) → e ≠ 0 → ∀ h' a', a' ≤ 8 * m → St B h0 h' (rdG q A m c a' :: F) → ∃ w a', retVal [.slice none 0 0, nV e] = retVal [w, nV N.2.2.2] ∧ a' ≤ 8 * m ∧ (N.2.2.2 = 0 → a' = N.2.2.1) ∧ St B h0 h' (rdG q A m c a' :: row 65 3 w (N.1.flatMap tokV) :: F) := by
  intro e he h0 h' a' ha' st
  subst he
  exact ⟨_, a', rfl, ha', fun h => absurd h h0, (st.nilrow 65 3).perm (List.Perm.swap _ _ _)⟩
 refine ret_of_X Tryz.func11 rfl rfl fun w0 hw0 => ?_
 simp only [argE, Nat.zero_add, Nat.reduceAdd]
 have st := st0
 refine X_seq (X_reg (XA rfl rfl rfl (XA rfl rfl rfl (XR_nil (X_seq (X_seq (X_reg (XV rfl rfl rfl ?_))))))))
 refine XR_a (op_ptr_nil rfl rfl rfl) rfl rfl ?_
 refine XR_nil (X_else rfl (X_skip (X_seq (X_reg (XV rfl rfl rfl ?_)))))
 refine XR_wa (opl_call (bcodes_spec st.here (fun h' hh => hrB h' (st.low.trans hh)) hl (by omega) (by omega)) rfl (by kernel_rfl)) rfl rfl rfl ?_
 rintro _ hp1 ⟨w1, w2, a1, rfl, ha1, st, hk⟩
 rw [hK] at hk ⊢
 refine XV rfl rfl rfl (XR_a (op_extract rfl rfl) rfl rfl (XR_a (op_extract rfl rfl) rfl rfl (XR_a (op_extract rfl rfl) rfl rfl (XA rfl rfl rfl (XA rfl rfl rfl (XA rfl rfl rfl (XR_nil (X_seq (X_seq ?_)))))))))
 refine X_reg (XV rfl rfl rfl ?_)
 refine XR_a (op_neq rfl rfl) rfl rfl ?_
 refine XR_nil ?_
 refine X_if rfl (fun h => ?_) (fun h => ?_)
 ·rw [if_pos (by omega)] at hN
  refine X_seq (X_reg (XV rfl rfl rfl (XA rfl rfl rfl (XA rfl rfl rfl (XR_nil ?_)))))
  refine X_ret (.cons (.tmp rfl) (.cons (.tmp rfl) .nil)) ?_
  exact bad _ hN.symm (by omega) _ _ ha1 st
 ·have hK0 : K.1 = 0 := by omega
  rw [if_neg (by omega)] at hN
  obtain ⟨rfl, p1, p2, rfl, rfl, st⟩ := hk hK0
  obtain ⟨oka, okb, na, nb⟩ := hok hK0
  clear hk hok
  refine X_skip (X_seq (X_reg (XA rfl rfl rfl (XR_nil (X_seq (X_reg (XA rfl rfl rfl (XR_nil (X_block ?_)))))))))
  replace st := (st.nilrow 65 3)
  replace st := St.reF [_, _, _, _] 4 st [1, 2, 3, 0] (by decide)
  simp only [List.map_cons, List.map_nil, getR, List.cons_append, List.nil_append] at st
  refine X_loop (fun s => s.1) (fun s => [(0, .pointer (some ⟨q, 0, none⟩)), (1, .int .i64 most), (6, .pointer (some ⟨p1, 0, none⟩)), (7, .pointer (some ⟨p2, 0, none⟩)), (9, s.2.2.2.2), (10, nV s.2.2.1)])
   (fun (s : Nat × Nat × Nat × List Tok × Value) hp => goB K.2.1 K.2.2.1 (bitsB l) most s.1 s.2.1 s.2.2.1 s.2.2.2.1 = N ∧ 8 * m + 1 ≤ s.2.1 + s.1 ∧ s.2.1 ≤ 8 * m ∧ s.2.2.1 ≤ 258 * s.2.1 ∧ s.2.2.2.1.length ≤ s.2.1 ∧ (0 < s.2.2.1 → (s.2.2.1 : Int) ≤ most) ∧
    St B h0 hp (rdG q A m c s.2.1 :: codeR p1 K.2.1 :: codeR p2 K.2.2.1 :: row 65 3 s.2.2.2.2 (s.2.2.2.1.flatMap tokV) :: F))
   ((bitsB l).length + 1, K.2.2.2, 0, [], _) (.cons rfl (.cons rfl (.cons rfl (.cons rfl (.cons rfl (.cons rfl (.nil _))))))) ⟨hN, by simp only; omega, ha1, Nat.zero_le _, Nat.zero_le _, fun h => absurd h (by simp), st⟩ ?_
  clear st
  rintro ⟨f, a, sz, acc, v⟩ hp ⟨hg, hf, haa, hsz, hacl, hmz, st⟩
  simp only at hg hf haa hsz hacl hmz st ⊢
  obtain ⟨f, rfl⟩ : ∃ g, f = g + 1 := ⟨f - 1, by omega⟩
  have hna := nextT_at (la := K.2.1) (lb := K.2.2.1) (bs := bitsB l) (a := a) oka okb (by omega)
  rw [goB] at hg
  refine X_block (X_seq (X_reg (XV rfl rfl rfl (XV rfl rfl rfl (XV rfl rfl rfl ?_)))))
  refine XR_wa (opl_call (btoken_spec st.here oka okb na nb (fun h' hh => hrB h' (st.low.trans hh)) hl (by omega) haa) rfl (by kernel_rfl)) rfl rfl rfl ?_
  rintro _ hp2 ⟨rfl, st2⟩
  replace st := st.trans st2
  clear st2
  obtain ⟨T, hT⟩ : ∃ T, nextT K.2.1 K.2.2.1 (bitsB l) a = T := ⟨_, rfl⟩
  rw [hT] at hg hna st ⊢
  obtain ⟨A9, n9, c9, rfl, hl9, _⟩ := st.row 3 rfl
  refine XV rfl rfl rfl (XR_a (op_extract rfl rfl) rfl rfl (XR_a (op_extract rfl rfl) rfl rfl (XR_a (op_extract rfl rfl) rfl rfl ?_)))
  refine XR_wa (opl_new rfl) rfl rfl rfl ?_
  rintro _ hp ⟨p11, rfl, hnew⟩
  replace st := st.new hnew
  refine XR_wn (opl_store_whole (us := tokV T.1) st 0 rfl rfl rfl rfl rfl (tokV_one _) rfl) rfl rfl fun _ hp st => ?_
  simp only [List.set_cons_zero, List.set_cons_succ] at st
  refine XA rfl rfl rfl (XA rfl rfl rfl (XR_nil (X_seq (X_reg ?_))))
  first | refine XR_a (op_field0 rfl rfl) rfl rfl ?_ | refine XR_a (op_fieldn rfl rfl) rfl rfl ?_
  refine XR_a (op_ld (st.cell 0 (i := 1) rfl rfl) rfl rfl rfl) rfl rfl ?_
  refine XR_a (op_max2 rfl rfl) rfl rfl ?_
  refine XA rfl rfl rfl (XR_nil (X_seq (X_block (X_seq (X_reg (XV rfl rfl rfl ?_))))))
  refine XR_a (op_neq rfl rfl) rfl rfl ?_
  refine XA rfl rfl rfl (XR_nil ?_)
  refine X_if rfl (fun h => ?_) (fun h => ?_)
  ·have ho : T.2.2.1 = true := by
    cases hh : T.2.2.1 with
    | true => rfl
    | false => have := (hna.2.2 hh).2.1; omega
   rw [if_pos ho, if_pos (by omega)] at hg
   have st' := (St.reF [_, _, _, _, _] 5 st [0, 2, 3, 4, 1] (by decide)).tail.tail.tail.tail
   refine X_seq (X_reg (XV rfl rfl rfl (XA rfl rfl rfl (XA rfl rfl rfl (XR_nil ?_)))))
   refine X_ret (.cons (.tmp rfl) (.cons (.tmp rfl) .nil)) ?_
   exact bad _ hg.symm (by omega) _ _ (by omega) st'
  ·refine X_seq (X_reg (XV rfl rfl rfl ?_))
   first | refine XR_a (op_notd rfl) rfl rfl ?_ | refine XR_a (op_not rfl) rfl rfl ?_
   refine XA rfl rfl rfl (XR_nil ?_)
   refine X_cond rfl (fun h => ?_) (fun h => ?_)
   ·have ho : T.2.2.1 = true := by simpa using h
    rw [if_pos ho, if_neg (by omega)] at hg
    refine X_seq (X_reg (XV rfl rfl rfl (XA rfl rfl rfl (XA rfl rfl rfl (XR_nil ?_)))))
    refine X_ret (.cons (.tmp rfl) (.cons (.tmp rfl) .nil)) ?_
    subst hg
    exact ⟨_, T.2.1, rfl, by omega, fun _ => rfl, (St.reF [_, _, _, _, _] 5 st [0, 2, 3, 1, 4] (by decide)).tail.tail.tail⟩
   ·have ho : T.2.2.1 = false := by simpa using h
    rw [if_neg (by rw [ho]; simp)] at hg
    obtain ⟨hlt, he0, hri, hb0, hb1⟩ := hna.2.2 ho
    obtain ⟨hs1, hs2, hs3⟩ := Tok.size_le hri
    refine X_seq (X_reg ?_)
    first | refine XR_a (op_field0 rfl rfl) rfl rfl ?_ | refine XR_a (op_fieldn rfl rfl) rfl rfl ?_
    refine XR_a (op_ld (st.cell 0 (i := 2) rfl rfl) rfl rfl rfl) rfl rfl ?_
    refine XV rfl rfl rfl ?_
    refine XR_a (op_gtr rfl rfl) rfl rfl ?_
    refine XA rfl rfl rfl (XR_nil ?_)
    refine X_if rfl (fun h => ?_) (fun h => ?_)
    ·rw [if_pos (by omega)] at hg
     refine X_seq (X_reg (XA rfl rfl rfl (XA rfl rfl rfl (XR_nil ?_))))
     refine X_ret (.cons (.tmp rfl) (.cons (.tmp rfl) .nil)) ?_
     exact bad _ hg.symm (by omega) _ _ (by omega) (St.reF [_, _, _, _, _] 5 st [0, 2, 3, 4, 1] (by decide)).tail.tail.tail.tail
    ·rw [if_neg (by omega)] at hg
     refine X_seq (X_reg (XV rfl rfl rfl (XV rfl rfl rfl (XV rfl rfl rfl ?_))))
     refine XR_a (op_subI rfl rfl (by simp only [inK] at hmo ⊢; omega)) rfl rfl ?_
     refine XR_a (op_gtr rfl rfl) rfl rfl ?_
     refine XA rfl rfl rfl (XR_nil ?_)
     refine X_if rfl (fun h => ?_) (fun h => ?_)
     ·rw [if_pos (by omega)] at hg
      refine X_seq (X_reg (XA rfl rfl rfl (XA rfl rfl rfl (XR_nil ?_))))
      refine X_ret (.cons (.tmp rfl) (.cons (.tmp rfl) .nil)) ?_
      exact bad _ hg.symm (by omega) _ _ (by omega) (St.reF [_, _, _, _, _] 5 st [0, 2, 3, 4, 1] (by decide)).tail.tail.tail.tail
     ·rw [if_neg (by omega)] at hg
      refine X_skip (X_blk (X_seq (X_reg (XV rfl rfl rfl ?_))))
      refine XR_a (op_ldA (vs := tokV T.1) (st.cells 0 rfl) rfl rfl rfl rfl) rfl rfl ?_
      refine XR_wa (opl_varA (us := tokV T.1) rfl rfl rfl rfl (by kernel_rfl)) rfl rfl rfl ?_
      rintro _ hp ⟨A8, rfl, hx9, hrd⟩
      replace st := st.ext hx9
      refine XR_wa (opl_append st 4 rfl (hrd) (rfl) (tokV_one _) (by rw [flat_length _ 3 (fun _ => rfl)]; simp; omega) rfl rfl rfl rfl rfl rfl rfl) rfl rfl rfl fun v hp st => ?_
      simp only [List.set_cons_zero, List.set_cons_succ] at st
      have e2 : acc.flatMap tokV ++ tokV T.1 = (acc ++ [T.1]).flatMap tokV := by rw [List.flatMap_append]; simp
      rw [e2] at st
      refine XA rfl rfl rfl (XR_nil (X_reg (XV rfl rfl rfl (XV rfl rfl rfl ?_))))
      refine XR_a (op_addI rfl rfl (by simp only [inK]; omega)) rfl rfl ?_
      refine XR_as (nV (sz + T.1.size)) (congrArg (Value.int .i64) (by omega)) ?_
      refine XA rfl rfl rfl (XR_nil (X_blk ?_))
      refine X_again (f, T.2.1, sz + T.1.size, acc ++ [T.1], _) (.cons rfl (.cons rfl (.cons rfl (.cons rfl (.cons rfl (.cons rfl (.nil _))))))) ⟨hg, by simp only; omega, by simp only; omega, by simp only; omega, by simp only [List.length_append, List.length_cons, List.length_nil]; omega, fun _ => by simp only; omega, st.tail⟩ (by simp only; omega)
end Go.Bn
end

section
set_option linter.unusedVariables false
set_option linter.unusedSimpArgs false
set_option maxHeartbeats 4000000
set_option maxRecDepth 20000
namespace Go.Bn
open Go Proofs
section
variable {P : Program} {E : Env} {hp : Heap} {cl : Cls} {d : Option Tmp} {ty : TypeId} {pos : String} {af : Array Edge} {g : Option (Nat × Bool)} {x y : Operand} {t t' : TypeId}
theorem op_nilCheckI {T : TypeId} {v : Value} (hx : ev E x = some (.iface T v)) : Op1 cl P ⟨d, .nilCheck x, ty, pos, af, g⟩ E hp (.iface T v) :=
 .of_pure fun n a ho w' => by simp [execOp, ho.eval hx]
theorem opl_invoke {f : FuncId} {name : String} {args : Array Operand} {ts : Array TypeId} {vs : List Value} {T : TypeId} {rv : Value} {Φ : Value → Heap → Prop} (hx : ev E x = some (.iface T rv)) (hargs : evs E args.toList = some vs)
  (hm : ∀ w, (method (P.types.size + Made.depth) T rv name).run P w = .ok (f, rv) w) (h : Ret P f (rv :: vs) hp Φ) (hc : callOk P f = true) :
  OpL P ⟨d, .call ⟨.invoke x name, args, ts⟩, ty, pos, af, g⟩ E hp Φ := by
 intro n a w ho hw K hK
 unfold callOk at hc
 split at hc
 ·rename_i fn hfn
  simp only [Bool.and_eq_true, Bool.not_eq_true'] at hc
  obtain ⟨hn, hb⟩ := hc
  have hn' : ¬ (fn.name = "runtime.NumGoroutine") := by simpa using hn
  have hb' : ¬ (fn.body = none) := by intro h; rw [h] at hb; cases hb
  have ha : args.map a.eval = vs.toArray := by
   apply Array.toList_inj.1
   rw [Array.toList_map, ho.evals hargs]
  have hm' := hm w
  have hrun : (execOp a.eval ⟨d, .call ⟨.invoke x name, args, ts⟩, ty, pos, af, g⟩).run P w = .ok (.enter f (rv :: vs).toArray) w := by
   have e0 : (#[Value.iface T rv] ++ vs.toArray)[0]? = some (.iface T rv) := by simp
   have e1 : (#[Value.iface T rv] ++ vs.toArray).extract 1 (#[Value.iface T rv] ++ vs.toArray).size = vs.toArray := by
    apply Array.toList_inj.1
    simp
   have hcm : (callMethod (.iface T rv) name vs.toArray).run P w = .ok (.enter f (rv :: vs).toArray) w := by
    have hp0 : Sem.run P program w = .ok P w := rfl
    have e2 : #[rv] ++ vs.toArray = (rv :: vs).toArray := by apply Array.toList_inj.1; simp
    simp only [callMethod, Sem.run_bind, hp0, Result.andThen_ok, hm']
    simp [callFunc, hfn, hn', hb', e2]
   simp [execOp, resolve, ho.eval hx, ha, invoke, e0, e1, hcm]
  simp only [Oper.wp, hrun, Oper.upon]
  refine (h w hw).mono ?_
  rintro e w' ⟨v, rfl, hi, hΦ⟩
  exact hK v w' hi hΦ
 ·cases hc
end
structure Sou (B : Nat) where
  hb : Heap
  T : TypeId
  rv : Value
  f : FuncId
  SR : Nat → Res
  mv : Mv
  I : Nat → List UInt8 → Prop
  lim : Nat
  ok : MvOk mv lim I
  hlim : lim ≤ 1048576
  hm : ∀ w, (method (Tryz.prog.types.size + Made.depth) T rv "bindle/reader.more").run Tryz.prog w = .ok (f, rv) w
  hc : callOk Tryz.prog f = true
  more : ∀ (h0 : Heap) (v : Value) (a : Nat) (out : List UInt8) (F : List Res), Low B hb h0 → I a out → St B h0 h0 (row 5 1 v (out.map byteV) :: SR a :: F) →
    Ret Tryz.prog f [rv, v] h0 fun u h' => ∃ v', u = retVal [v', .bool (mv a out).2.2.1, nV (mv a out).2.2.2] ∧
      ((mv a out).2.2.1 = true → St B h0 h' (row 5 1 v' ((mv a out).2.1.map byteV) :: F)) ∧ ((mv a out).2.2.1 = false → St B h0 h' (row 5 1 v' ((mv a out).2.1.map byteV) :: SR (mv a out).1 :: F))
structure RdS where
  a : Nat
  out : List UInt8
  over : Bool
  e : Nat
  v : Value
def OnT {B : Nat} (S : Sou B) (gB : List UInt8) (gE : Nat) (s : RdS) : Prop := (s.over = true ∧ s.out = gB ∧ s.e = gE) ∨ (s.over = false ∧ s.e = 0 ∧ S.I s.a s.out ∧ Giv S.mv s.a s.out gB gE)
theorem OnT.pre {B : Nat} {S : Sou B} {gB : List UInt8} {gE : Nat} {s : RdS} (h : OnT S gB gE s) : ∃ x, gB = s.out ++ x := by
 rcases h with ⟨_, h, _⟩ | ⟨_, _, hI, g⟩
 ·exact ⟨[], by rw [h]; simp⟩
 ·exact (g.pre S.ok hI).1
def souR {B : Nat} (S : Sou B) (s : RdS) : Res := if s.over = true then emp else S.SR s.a
@[reducible] def rdC {B : Nat} (S : Sou B) (told : Nat) (s : RdS) : List Value := [.iface S.T S.rv, s.v, nV told, .bool s.over, nV s.e]
def rdrR {B : Nat} (S : Sou B) (pr : Nat) (gB : List UInt8) (gE told : Nat) : Res :=
  exR fun (s : RdS) => andR (OnT S gB gE s ∧ told ≤ s.out.length ∧ gB.length ≤ S.lim) (starR (pt pr 170 (rdC S told s)) (starR (Bn.row 5 1 s.v (s.out.map byteV)) (souR S s)))
theorem St.rdr {B pr : Nat} {S : Sou B} {gB : List UInt8} {gE told : Nat} {F : List Res} {h0 hp : Heap} (st : St B h0 hp (rdrR S pr gB gE told :: F)) :
  ∃ s, OnT S gB gE s ∧ told ≤ s.out.length ∧ gB.length ≤ S.lim ∧ St B h0 hp (pt pr 170 (rdC S told s) :: Bn.row 5 1 s.v (s.out.map byteV) :: souR S s :: F) := by
 obtain ⟨s, st⟩ := St.ex.1 st
 obtain ⟨⟨h1, h2, h3⟩, st⟩ := St.and.1 st
 have st2 := (St.star.1 st).perm (List.Perm.swap _ _ _)
 have st3 := St.star.1 st2
 refine ⟨s, h1, h2, h3, ?_⟩
 exact St.reF [_, _, _] 3 st3 [2, 0, 1] (by decide)
theorem St.unrdr {B pr : Nat} {S : Sou B} {gB : List UInt8} {gE told : Nat} {F : List Res} {h0 hp : Heap} {s : RdS} (st : St B h0 hp (pt pr 170 (rdC S told s) :: Bn.row 5 1 s.v (s.out.map byteV) :: souR S s :: F)) (h1 : OnT S gB gE s) (h2 : told ≤ s.out.length) (h3 : gB.length ≤ S.lim) :
  St B h0 hp (rdrR S pr gB gE told :: F) := by
 have st3 := St.star.2 (St.reF [_, _, _] 3 st [1, 2, 0] (by decide))
 exact St.ex.2 ⟨s, St.and.2 ⟨⟨h1, h2, h3⟩, St.star.2 (st3.perm (List.Perm.swap _ _ _))⟩⟩
theorem rfill_spec {B pr told : Nat} {n : Int} {S : Sou B} {gB : List UInt8} {gE : Nat} {F : List Res} {h0 : Heap} (st0 : St B h0 h0 (rdrR S pr gB gE told :: F)) (hlw : Low B S.hb h0) (hn : inK .i64 n) :
  Ret Tryz.prog 100 [.pointer (some ⟨pr, 0, none⟩), .int .i64 n] h0 fun v h' => v = .tuple #[] ∧ ∃ s, OnT S gB gE s ∧ told ≤ s.out.length ∧ gB.length ≤ S.lim ∧ (s.over = true ∨ n ≤ (s.out.length : Int) - told) ∧
   St B h0 h' (pt pr 170 (rdC S told s) :: row 5 1 s.v (s.out.map byteV) :: souR S s :: F) := by
 obtain ⟨s0, hT0, ht0, hgl, st⟩ := st0.rdr
 have hlim := S.hlim
 refine ret_of_X Tryz.func100 rfl rfl fun w0 hw0 => ?_
 simp only [argE, Nat.zero_add, Nat.reduceAdd]
 refine X_block ?_
 refine X_loop (fun s => if s.over = true then 0 else S.lim + 2 - s.out.length) (fun _ => [(0, .pointer (some ⟨pr, 0, none⟩)), (1, .int .i64 n)])
  (fun (s : RdS) hp => OnT S gB gE s ∧ told ≤ s.out.length ∧ St B h0 hp (pt pr 170 (rdC S told s) :: row 5 1 s.v (s.out.map byteV) :: souR S s :: F))
  s0 (.cons rfl (.cons rfl (.nil _))) ⟨hT0, ht0, st⟩ ?_
 clear st ht0 hT0 s0
 rintro ⟨a, out, ov, e, v⟩ hp ⟨hT, ht, st⟩
 have hpre := hT.pre
 simp only at ht hpre
 have hol : out.length ≤ S.lim := by obtain ⟨x, hx⟩ := hpre; rw [hx] at hgl; simp at hgl; omega
 obtain ⟨A1, n1, c1, rfl, hl1, _⟩ := st.row 1 rfl
 have hl1 : out.length = n1 := by simpa using hl1
 refine X_seq (X_seq ?_)
 refine X_draw byKind (by kernel_rfl) (by kernel_rfl) ?_
 refine XV rfl rfl rfl (XR_a (op_nilCheck rfl) rfl rfl ?_)
 first | refine XR_a (op_field0 rfl rfl) rfl rfl ?_ | refine XR_a (op_fieldn rfl rfl) rfl rfl ?_
 refine XR_a (op_ld (st.cell 0 (i := 3) rfl rfl) rfl rfl rfl) rfl rfl ?_
 refine XR_a (op_not rfl) rfl rfl ?_
 refine XV rfl rfl rfl ?_
 refine XR_split 9 rfl (fun h => ?_) (fun h => ?_)
 ·have hov : ov = false := by simpa using h
  subst hov
  refine XV rfl rfl rfl (XR_a (op_nilCheck rfl) rfl rfl ?_)
  first | refine XR_a (op_field0 rfl rfl) rfl rfl ?_ | refine XR_a (op_fieldn rfl rfl) rfl rfl ?_
  refine XR_a (op_ld (st.cell 0 (i := 1) rfl rfl) rfl rfl rfl) rfl rfl ?_
  refine XR_a (op_len rfl rfl rfl) rfl rfl ?_
  refine XV rfl rfl rfl (XR_a (op_nilCheck rfl) rfl rfl ?_)
  first | refine XR_a (op_field0 rfl rfl) rfl rfl ?_ | refine XR_a (op_fieldn rfl rfl) rfl rfl ?_
  refine XR_a (op_ld (st.cell 0 (i := 2) rfl rfl) rfl rfl rfl) rfl rfl ?_
  refine XR_a (op_subI rfl rfl (by simp only [inK]; omega)) rfl rfl ?_
  refine XV rfl rfl rfl ?_
  refine XR_a (op_lss rfl rfl) rfl rfl ?_
  refine XR_a (op_pick_t rfl rfl) rfl rfl (XR_nil ?_)
  refine X_if rfl (fun h => ?_) (fun h => ?_)
  ·refine X_skip (X_block ?_)
   refine X_draw byKind (by kernel_rfl) (by kernel_rfl) ?_
   refine XV rfl rfl rfl (XV rfl rfl rfl (XV rfl rfl rfl (XV rfl rfl rfl (XR_a (op_nilCheck rfl) rfl rfl ?_))))
   first | refine XR_a (op_field0 rfl rfl) rfl rfl ?_ | refine XR_a (op_fieldn rfl rfl) rfl rfl ?_
   refine XR_a (op_ld (st.cell 0 (i := 0) rfl rfl) rfl rfl rfl) rfl rfl ?_
   refine XV rfl rfl rfl (XR_a (op_nilCheck rfl) rfl rfl ?_)
   first | refine XR_a (op_field0 rfl rfl) rfl rfl ?_ | refine XR_a (op_fieldn rfl rfl) rfl rfl ?_
   refine XR_a (op_ld (st.cell 0 (i := 1) rfl rfl) rfl rfl rfl) rfl rfl ?_
   refine XR_a (op_nilCheckI rfl) rfl rfl ?_
   refine XV rfl rfl rfl ?_
   have hT2 := hT
   simp only [OnT] at hT2
   obtain ⟨he0, hI, hg⟩ : e = 0 ∧ S.I a out ∧ Giv S.mv a out gB gE := by simpa using hT2
   have stc := St.reF [_, _, _] 3 st [1, 2, 0] (by decide)
   simp only [List.map_cons, List.map_nil, getR, List.cons_append, List.nil_append] at stc
   refine XR_wa (opl_invoke rfl rfl S.hm (S.more hp _ a out _ (hlw.trans stc.low) hI (St.here (by exact stc))) S.hc) rfl rfl rfl ?_
   rintro _ hp2 ⟨v2, rfl, hov, hgo⟩
   have hgr := S.ok.grow a out hI
   have hle := S.ok.le a out hI
   have hpr := S.ok.pre a out hI
   obtain ⟨M, hM⟩ : ∃ M, S.mv a out = M := ⟨_, rfl⟩
   rw [hM] at hov hgo hgr hle hpr ⊢
   have hlen : out.length ≤ M.2.1.length := by obtain ⟨x, hx⟩ := hpr; rw [hx]; simp
   have st2 : St B h0 hp2 (row 5 1 v2 (M.2.1.map byteV) :: souR S ⟨M.1, M.2.1, M.2.2.1, M.2.2.2, v2⟩ :: pt pr 170 (rdC S told ⟨a, out, false, e, .slice A1 n1 c1⟩) :: F) := by
    refine stc.trans ?_
    cases hh : M.2.2.1 with
    | true =>
     have := hov hh
     unfold souR
     rw [if_pos rfl]
     exact (St.emp.2 this).perm (List.Perm.swap _ _ _)
    | false => exact hgo hh
   have hT3 : OnT S gB gE ⟨M.1, M.2.1, M.2.2.1, M.2.2.2, v2⟩ := by
    cases hh : M.2.2.1 with
    | true =>
     refine .inl ⟨rfl, ?_⟩
     have := Giv.det (Giv.over (mv := S.mv) (a := a) (out := out) (by rw [hM]; exact hh)) hg
     rw [hM] at this
     exact this
    | false =>
     obtain ⟨g1, g2, g3⟩ := hgr hh
     refine .inr ⟨rfl, g2, g3, ?_⟩
     cases hg with
     | over h9 => rw [hM, hh] at h9; cases h9
     | more h9 hg => rw [hM] at hg; exact hg
   clear st stc hov hgo
   have hv2 : Value.one v2 = true := row_one st2 0 rfl
   have st := st2
   clear st2
   refine XV rfl rfl rfl (XR_a (op_extract rfl rfl) rfl rfl (XR_a (op_extract rfl rfl) rfl rfl (XR_a (op_extract rfl rfl) rfl rfl (XR_a (op_nilCheck rfl) rfl rfl ?_))))
   first | refine XR_a (op_field0 rfl rfl) rfl rfl ?_ | refine XR_a (op_fieldn rfl rfl) rfl rfl ?_
   refine XR_wn (opl_store_pt st 2 rfl rfl rfl rfl rfl (hv2)) rfl rfl fun _ hp st => ?_
   simp only [List.set_cons_zero, List.set_cons_succ] at st
   refine XR_a (op_nilCheck rfl) rfl rfl ?_
   first | refine XR_a (op_field0 rfl rfl) rfl rfl ?_ | refine XR_a (op_fieldn rfl rfl) rfl rfl ?_
   refine XR_wn (opl_store_pt st 2 rfl rfl rfl rfl rfl (rfl)) rfl rfl fun _ hp st => ?_
   simp only [List.set_cons_zero, List.set_cons_succ] at st
   refine XR_a (op_nilCheck rfl) rfl rfl ?_
   first | refine XR_a (op_field0 rfl rfl) rfl rfl ?_ | refine XR_a (op_fieldn rfl rfl) rfl rfl ?_
   refine XR_wn (opl_store_pt st 2 rfl rfl rfl rfl rfl (rfl)) rfl rfl fun _ hp st => ?_
   simp only [List.set_cons_zero, List.set_cons_succ] at st
   refine XR_nil (X_blk ?_)
   refine X_again ⟨M.1, M.2.1, M.2.2.1, M.2.2.2, v2⟩ (.cons rfl (.cons rfl (.nil _))) ⟨hT3, by simp only; omega, ?_⟩ ?_
   ·exact St.reF [_, _, _] 3 st [2, 0, 1] (by decide)
   ·simp only
    cases hh : M.2.2.1 with
    | true => simp; omega
    | false =>
     have := (hgr hh).1
     simp; omega
  ·refine X_exit rfl ?_
   refine X_end .nil ?_
   exact ⟨rfl, ⟨a, out, false, e, _⟩, hT, ht, hgl, .inr (by simp only; omega), st⟩
 ·have hov : ov = true := by simpa using h
  subst hov
  refine XR_no rfl rfl (XR_no rfl rfl (XR_no rfl rfl (XR_no rfl rfl (XR_no rfl rfl (XR_no rfl rfl (XR_no rfl rfl (XR_no rfl rfl (XR_no rfl rfl (XR_no rfl rfl ?_)))))))))
  refine XR_no rfl rfl (XR_no rfl rfl (XR_a (op_pick_f rfl rfl) rfl rfl (XR_nil (X_else rfl (X_exit rfl ?_)))))
  refine X_end .nil ?_
  exact ⟨rfl, ⟨a, out, true, e, _⟩, hT, ht, hgl, .inl rfl, st⟩
def nextK (gB : List UInt8) (told : Nat) (n : Int) : Nat := if n < 1 then 0 else min n.toNat (gB.length - told)
def nextE (gB : List UInt8) (gE told : Nat) (n : Int) : Nat := if n < 1 then 0 else if gB.length ≤ told then gE else 0
theorem rnext_spec {B pr told : Nat} {n : Int} {S : Sou B} {gB : List UInt8} {gE : Nat} {F : List Res} {h0 : Heap} (st0 : St B h0 h0 (rdrR S pr gB gE told :: F)) (hlw : Low B S.hb h0) (hn : inK .i64 n) :
  Ret Tryz.prog 62 [.pointer (some ⟨pr, 0, none⟩), .int .i64 n] h0 fun v h' => ∃ w, v = retVal [w, nV (nextE gB gE told n)] ∧
   St B h0 h' (row 5 1 w (((gB.drop told).take (nextK gB told n)).map byteV) :: rdrR S pr gB gE (told + nextK gB told n) :: F) := by
 have hlim := S.hlim
 obtain ⟨K, hK⟩ : ∃ K, nextK gB told n = K := ⟨_, rfl⟩
 obtain ⟨X, hX⟩ : ∃ X, nextE gB gE told n = X := ⟨_, rfl⟩
 rw [hK, hX]
 unfold nextK at hK
 unfold nextE at hX
 refine ret_of_X Tryz.func62 rfl rfl fun w0 hw0 => ?_
 simp only [argE, Nat.zero_add, Nat.reduceAdd]
 refine X_seq (X_reg (XA rfl rfl rfl (XA rfl rfl rfl (XR_nil (X_seq (X_seq (X_reg (XV rfl rfl rfl ?_))))))))
 refine XR_a (op_ptr_nil rfl rfl rfl) rfl rfl ?_
 refine XR_nil (X_else rfl (X_skip (X_seq (X_seq (X_reg (XV rfl rfl rfl ?_))))))
 refine XR_a (op_lss rfl rfl) rfl rfl ?_
 refine XR_nil ?_
 refine X_if rfl (fun h => ?_) (fun h => ?_)
 ·refine X_seq (X_reg (XA rfl rfl rfl (XA rfl rfl rfl (XR_nil ?_))))
  refine X_ret (.cons (.tmp rfl) (.cons (.tmp rfl) .nil)) ?_
  rw [if_pos (by omega)] at hK hX
  subst hK hX
  refine ⟨_, rfl, ?_⟩
  rw [Nat.add_zero, List.take_zero]
  exact st0.nilrow 5 1
 ·refine X_skip (X_seq (X_reg (XV rfl rfl rfl (XV rfl rfl rfl ?_))))
  refine XR_wa (opl_call (rfill_spec st0 hlw hn) rfl (by kernel_rfl)) rfl rfl rfl ?_
  rintro _ hp ⟨rfl, ⟨a, out, ov, e, v⟩, hT, ht, hgl, hov, st⟩
  rw [if_neg (by omega)] at hK hX
  have hpre := hT.pre
  simp only at ht hpre hov
  obtain ⟨x, hx⟩ := hpre
  have hgbl : gB.length = out.length + x.length := by rw [hx]; simp
  obtain ⟨A1, n1, c1, rfl, hl1, hc1, _⟩ := st.row 1 rfl
  have hl1 : out.length = n1 := by simpa using hl1
  have hKo : K = min n.toNat (out.length - told) ∧ K ≤ out.length - told := by
   rcases hov with h | h
   ·subst h
    rcases hT with ⟨_, h2, _⟩ | ⟨h2, _⟩
    ·simp only at h2; subst h2; omega
    ·cases h2
   ·omega
  refine XR_nil (X_seq ?_)
  refine X_draw byKind (by kernel_rfl) (by kernel_rfl) ?_
  refine XV rfl rfl rfl (XV rfl rfl rfl (XR_a (op_nilCheck rfl) rfl rfl ?_))
  first | refine XR_a (op_field0 rfl rfl) rfl rfl ?_ | refine XR_a (op_fieldn rfl rfl) rfl rfl ?_
  refine XR_a (op_ld (st.cell 0 (i := 1) rfl rfl) rfl rfl rfl) rfl rfl ?_
  refine XR_a (op_len rfl rfl rfl) rfl rfl ?_
  refine XV rfl rfl rfl (XR_a (op_nilCheck rfl) rfl rfl ?_)
  first | refine XR_a (op_field0 rfl rfl) rfl rfl ?_ | refine XR_a (op_fieldn rfl rfl) rfl rfl ?_
  refine XR_a (op_ld (st.cell 0 (i := 2) rfl rfl) rfl rfl rfl) rfl rfl ?_
  refine XR_a (op_subI rfl rfl (by simp only [inK]; omega)) rfl rfl ?_
  refine XR_a (op_min2 rfl rfl) rfl rfl ?_
  refine XR_as (nV K) (congrArg (Value.int .i64) (by omega)) ?_
  refine XA rfl rfl rfl (XR_nil (X_seq (X_seq (X_reg (XV rfl rfl rfl ?_)))))
  refine XR_a (op_eql rfl rfl) rfl rfl ?_
  refine XR_nil ?_
  refine X_if rfl (fun h => ?_) (fun h => ?_)
  ·refine X_seq ?_
   refine X_draw byKind (by kernel_rfl) (by kernel_rfl) ?_
   refine XV rfl rfl rfl (XR_a (op_nilCheck rfl) rfl rfl ?_)
   first | refine XR_a (op_field0 rfl rfl) rfl rfl ?_ | refine XR_a (op_fieldn rfl rfl) rfl rfl ?_
   refine XR_a (op_ld (st.cell 0 (i := 4) rfl rfl) rfl rfl rfl) rfl rfl ?_
   refine XA rfl rfl rfl (XA rfl rfl rfl (XR_nil ?_))
   refine X_ret (.cons (.tmp rfl) (.cons (.tmp rfl) .nil)) ?_
   have hK0 : K = 0 := by omega
   have hover : ov = true ∧ out = gB ∧ e = gE := by
    rcases hT with h | ⟨h1, _⟩
    ·exact h
    ·simp only at h1; subst h1
     rcases hov with h | h
     ·cases h
     ·omega
   obtain ⟨rfl, rfl, rfl⟩ := hover
   rw [if_pos (by omega)] at hX
   subst hK0 hX
   refine ⟨_, rfl, ?_⟩
   rw [Nat.add_zero, List.take_zero]
   exact (st.unrdr hT ht hgl).nilrow 5 1
  ·have hK1 : 1 ≤ K := by omega
   rw [if_neg (by omega)] at hX
   subst hX
   refine X_skip (X_seq ?_)
   refine X_draw_in byKind [1, 2, 3, 4, 5, 6, 7, 8, 9, 10, 11, 12, 13, 14, 15, 0, 16, 17] (by kernel_rfl) (by kernel_rfl) rfl ?_
   refine XV rfl rfl rfl (XR_a (op_nilCheck rfl) rfl rfl ?_)
   first | refine XR_a (op_field0 rfl rfl) rfl rfl ?_ | refine XR_a (op_fieldn rfl rfl) rfl rfl ?_
   refine XR_a (op_ld (st.cell 0 (i := 1) rfl rfl) rfl rfl rfl) rfl rfl ?_
   refine XV rfl rfl rfl (XR_a (op_nilCheck rfl) rfl rfl ?_)
   first | refine XR_a (op_field0 rfl rfl) rfl rfl ?_ | refine XR_a (op_fieldn rfl rfl) rfl rfl ?_
   refine XR_a (op_ld (st.cell 0 (i := 2) rfl rfl) rfl rfl rfl) rfl rfl ?_
   refine XV rfl rfl rfl (XR_a (op_nilCheck rfl) rfl rfl ?_)
   first | refine XR_a (op_field0 rfl rfl) rfl rfl ?_ | refine XR_a (op_fieldn rfl rfl) rfl rfl ?_
   refine XR_a (op_ld (st.cell 0 (i := 2) rfl rfl) rfl rfl rfl) rfl rfl ?_
   refine XV rfl rfl rfl ?_
   first | refine XR_a (op_addN rfl rfl (by simp only [inK]; omega)) rfl rfl ?_ | refine XR_a (op_addI rfl rfl (by simp only [inK]; omega)) rfl rfl ?_ | refine XR_a (op_add rfl rfl) rfl rfl ?_
   refine XR_a (op_slice (l := told) (h := told + K) rfl rfl rfl rfl (by omega) (by omega)) rfl rfl ?_
   have hcut := ((st.rdS 1 rfl).2).cut told 1 c1 K (by intro hh; simp; omega)
   rw [Nat.mul_one, ← List.map_drop, ← List.map_take] at hcut
   refine XR_ga (opl_lit0 rfl) rfl rfl rfl (fun _ _ e => e.1) ?_
   rintro v8 hp hnew
   replace st := st.new hnew
   refine XR_wa (opl_append st 0 rfl (hcut.ext hnew.1) (by simp; omega) (one_bytes _) (by simp; omega) rfl rfl rfl rfl rfl rfl rfl) rfl rfl rfl fun v hp st => ?_
   simp only [List.set_cons_zero, List.set_cons_succ] at st
   rw [List.nil_append, show (out.drop told).take K = (gB.drop told).take K by rw [hx, List.drop_append, List.take_append, show K - (out.drop told).length = 0 by rw [List.length_drop]; omega, List.take_zero, List.append_nil]] at st
   obtain ⟨A8, n8, c8, rfl, _⟩ := st.row 0 rfl
   refine XA rfl rfl rfl (XR_nil (X_seq (X_reg (XV rfl rfl rfl (XR_a (op_nilCheck rfl) rfl rfl ?_)))))
   first | refine XR_a (op_field0 rfl rfl) rfl rfl ?_ | refine XR_a (op_fieldn rfl rfl) rfl rfl ?_
   refine XR_a (op_ld (st.cell 1 (i := 2) rfl rfl) rfl rfl rfl) rfl rfl ?_
   refine XV rfl rfl rfl ?_
   first | refine XR_a (op_addN rfl rfl (by simp only [inK]; omega)) rfl rfl ?_ | refine XR_a (op_addI rfl rfl (by simp only [inK]; omega)) rfl rfl ?_ | refine XR_a (op_add rfl rfl) rfl rfl ?_
   refine XR_a (op_nilCheck rfl) rfl rfl ?_
   first | refine XR_a (op_field0 rfl rfl) rfl rfl ?_ | refine XR_a (op_fieldn rfl rfl) rfl rfl ?_
   refine XR_wn (opl_store_pt st 1 rfl rfl rfl rfl rfl (rfl)) rfl rfl fun _ hp st => ?_
   simp only [List.set_cons_zero, List.set_cons_succ] at st
   refine XR_nil (X_seq (X_reg (XV rfl rfl rfl (XA rfl rfl rfl (XA rfl rfl rfl (XR_nil ?_))))))
   refine X_ret (.cons (.tmp rfl) (.cons (.tmp rfl) .nil)) ?_
   refine ⟨_, rfl, ?_⟩
   have st2 : St B h0 hp ([row 5 1 (.slice A8 n8 c8) (((gB.drop told).take K).map byteV), pt pr 170 (rdC S (told + K) ⟨a, out, ov, e, .slice A1 n1 c1⟩), row 5 1 (.slice A1 n1 c1) (out.map byteV), souR S ⟨a, out, ov, e, .slice A1 n1 c1⟩] ++ F) := st
   have st3 := St.reF _ 4 st2 [1, 2, 3, 0] (by decide)
   exact (St.unrdr (s := ⟨a, out, ov, e, .slice A1 n1 c1⟩) st3 hT (by simp only; omega) hgl).perm (List.Perm.swap _ _ _)
theorem rdone_spec {B pr told : Nat} {S : Sou B} {gB : List UInt8} {gE : Nat} {F : List Res} {h0 : Heap} (st0 : St B h0 h0 (rdrR S pr gB gE told :: F)) (hlw : Low B S.hb h0) :
  Ret Tryz.prog 63 [.pointer (some ⟨pr, 0, none⟩)] h0 fun v h' => v = .bool (decide (told = gB.length ∧ gE = 0)) ∧ St B h0 h' (rdrR S pr gB gE told :: F) := by
 have hlim := S.hlim
 refine ret_of_X Tryz.func63 rfl rfl fun w0 hw0 => ?_
 simp only [argE, Nat.zero_add, Nat.reduceAdd]
 refine X_seq (X_reg (XA rfl rfl rfl (XR_nil (X_seq (X_seq (X_reg (XV rfl rfl rfl ?_)))))))
 refine XR_a (op_ptr_nil rfl rfl rfl) rfl rfl ?_
 refine XR_nil (X_else rfl (X_skip (X_seq (X_reg (XV rfl rfl rfl ?_)))))
 refine XR_wa (opl_call (rfill_spec st0 hlw (n := 1) (by simp only [inK]; omega)) rfl (by kernel_rfl)) rfl rfl rfl ?_
 rintro _ hp ⟨rfl, ⟨a, out, ov, e, v⟩, hT, ht, hgl, hov, st⟩
 have hpre := hT.pre
 simp only at ht hpre hov
 obtain ⟨x, hx⟩ := hpre
 have hgbl : gB.length = out.length + x.length := by rw [hx]; simp
 obtain ⟨A1, n1, c1, rfl, hl1, hc1, _⟩ := st.row 1 rfl
 have hl1 : out.length = n1 := by simpa using hl1
 refine XR_nil (X_seq ?_)
 refine X_draw byKind (by kernel_rfl) (by kernel_rfl) ?_
 refine XV rfl rfl rfl (XR_a (op_nilCheck rfl) rfl rfl ?_)
 first | refine XR_a (op_field0 rfl rfl) rfl rfl ?_ | refine XR_a (op_fieldn rfl rfl) rfl rfl ?_
 refine XR_a (op_ld (st.cell 0 (i := 3) rfl rfl) rfl rfl rfl) rfl rfl ?_
 refine XV rfl rfl rfl ?_
 refine XR_split 11 rfl (fun h => ?_) (fun h => ?_)
 ·subst h
  obtain ⟨rfl, rfl⟩ : out = gB ∧ e = gE := by
   rcases hT with h | ⟨h1, _⟩
   ·exact h.2
   ·cases h1
  refine XV rfl rfl rfl (XR_a (op_nilCheck rfl) rfl rfl ?_)
  first | refine XR_a (op_field0 rfl rfl) rfl rfl ?_ | refine XR_a (op_fieldn rfl rfl) rfl rfl ?_
  refine XR_a (op_ld (st.cell 0 (i := 2) rfl rfl) rfl rfl rfl) rfl rfl ?_
  refine XV rfl rfl rfl (XR_a (op_nilCheck rfl) rfl rfl ?_)
  first | refine XR_a (op_field0 rfl rfl) rfl rfl ?_ | refine XR_a (op_fieldn rfl rfl) rfl rfl ?_
  refine XR_a (op_ld (st.cell 0 (i := 1) rfl rfl) rfl rfl rfl) rfl rfl ?_
  refine XR_a (op_len rfl rfl rfl) rfl rfl ?_
  refine XR_a (op_eql rfl rfl) rfl rfl ?_
  refine XR_a (op_pick_t rfl rfl) rfl rfl (XV rfl rfl rfl ?_)
  refine XR_if 23 rfl (fun h => ?_) (fun h => ?_)
  ·refine XV rfl rfl rfl (XR_a (op_nilCheck rfl) rfl rfl ?_)
   first | refine XR_a (op_field0 rfl rfl) rfl rfl ?_ | refine XR_a (op_fieldn rfl rfl) rfl rfl ?_
   refine XR_a (op_ld (st.cell 0 (i := 4) rfl rfl) rfl rfl rfl) rfl rfl ?_
   refine XR_a (op_eql rfl rfl) rfl rfl ?_
   refine XR_a (op_pick_t rfl rfl) rfl rfl (XA rfl rfl rfl (XR_nil ?_))
   refine X_ret (.cons (.tmp rfl) .nil) ?_
   first
    | exact ⟨congrArg Value.bool (decide_eq_false (by omega)).symm, st.unrdr hT ht hgl⟩
    | exact ⟨congrArg Value.bool (decide_eq_decide.2 ⟨fun hh => by (try simp only at hh); (try simp only); omega, fun hh => by (try simp only at hh); (try simp only); omega⟩), st.unrdr hT ht hgl⟩
  ·refine XR_no rfl rfl (XR_no rfl rfl (XR_no rfl rfl (XR_no rfl rfl (XR_no rfl rfl (XR_a (op_pick_f rfl rfl) rfl rfl (XA rfl rfl rfl (XR_nil ?_)))))))
   refine X_ret (.cons (.tmp rfl) .nil) ?_
   first
    | exact ⟨congrArg Value.bool (decide_eq_false (by omega)).symm, st.unrdr hT ht hgl⟩
    | exact ⟨congrArg Value.bool (decide_eq_decide.2 ⟨fun hh => by (try simp only at hh); (try simp only); omega, fun hh => by (try simp only at hh); (try simp only); omega⟩), st.unrdr hT ht hgl⟩
 ·subst h
  have hlt : told < out.length := by
   rcases hov with h | h
   ·cases h
   ·omega
  refine XR_no rfl rfl (XR_no rfl rfl (XR_no rfl rfl (XR_no rfl rfl (XR_no rfl rfl (XR_no rfl rfl (XR_no rfl rfl (XR_no rfl rfl (XR_no rfl rfl (XR_no rfl rfl ?_)))))))))
  refine XR_a (op_pick_f rfl rfl) rfl rfl (XV rfl rfl rfl (XR_no rfl rfl (XR_no rfl rfl (XR_no rfl rfl (XR_no rfl rfl (XR_no rfl rfl (XR_a (op_pick_f rfl rfl) rfl rfl (XA rfl rfl rfl (XR_nil ?_)))))))))
  refine X_ret (.cons (.tmp rfl) .nil) ?_
  exact ⟨congrArg Value.bool (decide_eq_false (by omega)).symm, st.unrdr hT ht hgl⟩
end Go.Bn
end

section
set_option linter.unusedVariables false
set_option linter.unusedSimpArgs false
set_option maxHeartbeats 4000000
set_option maxRecDepth 20000
namespace Go.Bn
open Go Proofs
def cutI (n low high : Int) : Int := max low (min n high)
theorem cut_spec (n low high : Int) (h0 : Heap) : Ret Tryz.prog 157 [.int .i64 n, .int .i64 low, .int .i64 high] h0 fun v h' => v = .int .i64 (cutI n low high) ∧ h0 = h' := by
 refine ret_of_X Tryz.func157 rfl rfl fun w0 hw0 => ?_
 simp only [argE, Nat.zero_add, Nat.reduceAdd]
 refine X_seq (X_reg (XA rfl rfl rfl (XR_nil (X_seq (X_reg (XV rfl rfl rfl (XV rfl rfl rfl (XV rfl rfl rfl ?_))))))))
 refine XR_a (op_min2 rfl rfl) rfl rfl ?_
 refine XR_a (op_max2 rfl rfl) rfl rfl ?_
 refine XA rfl rfl rfl (XR_nil ?_)
 refine X_ret (.cons (.tmp rfl) .nil) ?_
 exact ⟨rfl, rfl⟩
theorem cut15 (n : Int) : cutI n 0 15 = (wd 15 n : Nat) := by unfold cutI wd; omega
theorem tval_bit (l : List Bool) (b : Int) (h : b = 0 ∨ b = 1) : tval (l ++ [b == 1]) = tval l * 2 + b.toNat := by
 rw [tval_snoc]
 rcases h with rfl | rfl <;> rfl
theorem ediv_succ (x : Int) (k : Nat) : x / 2 ^ (k + 1) = x / 2 ^ k / 2 := by
 rw [Int.pow_succ, Int.ediv_ediv_of_nonneg (Int.le_of_lt (Int.pow_pos (by omega)))]
theorem turn_spec (n many : Int) (h0 : Heap) (hn : inK .i64 n) : Ret Tryz.prog 170 [.int .i64 n, .int .i64 many] h0 fun v h' => v = .int .i64 (turnI n (wd 15 many) : Nat) ∧ h0 = h' := by
 have hw := wd_le 15 many
 refine ret_of_X Tryz.func170 rfl rfl fun w0 hw0 => ?_
 simp only [argE, Nat.zero_add, Nat.reduceAdd]
 refine X_seq (X_reg (XA rfl rfl rfl (XR_nil (X_seq (X_reg (XA rfl rfl rfl (XR_nil (X_seq (X_seq ?_)))))))))
 refine X_reg (XV rfl rfl rfl ?_)
 refine XR_wa (opl_call (cut_spec many 0 15 _) rfl (by kernel_rfl)) rfl rfl rfl ?_
 rintro _ _ ⟨rfl, rfl⟩
 rw [cut15]
 refine XV rfl rfl rfl (XR_nil (X_block ?_))
 obtain ⟨k, hk⟩ : ∃ k, wd 15 many = k := ⟨_, rfl⟩
 rw [hk] at hw ⊢
 refine X_loop (fun i => k - i) (fun i => [(0, .int .i64 (n / 2 ^ i)), (5, .int .i64 (turnI n i : Nat)), (7, .int .i64 (k : Nat)), (8, .int .i64 (i : Nat))])
  (fun (i : Nat) hp => hp = h0 ∧ i ≤ k)
  0 (.cons (by rw [Int.pow_zero, Int.ediv_one]; rfl) (.cons rfl (.cons rfl (.cons rfl (.nil _))))) ⟨rfl, by omega⟩ ?_
 rintro i hp ⟨rfl, hi⟩
 refine X_seq (X_reg ?_)
 refine XR_a (op_lss rfl rfl) rfl rfl ?_
 refine XR_nil (X_seq ?_)
 refine X_if rfl (fun h => ?_) (fun h => ?_)
 ·have hlt := turnI_lt n i
  have hpw : 2 ^ i ≤ 32768 := Nat.pow_le_pow_right (n := 2) (by omega) (show i ≤ 15 by omega)
  have h01 : n / 2 ^ i % 2 = 0 ∨ n / 2 ^ i % 2 = 1 := by omega
  have hts : turnI n (i + 1) = turnI n i * 2 + (n / 2 ^ i % 2).toNat := tval_bit _ _ h01
  obtain ⟨y, hy⟩ : ∃ y : Nat, n / 2 ^ i % 2 = y := ⟨(n / 2 ^ i % 2).toNat, by omega⟩
  rw [hy] at hts h01
  rw [Int.toNat_natCast] at hts
  refine X_skip (X_seq (X_block (X_seq (X_reg (XV rfl rfl rfl ?_)))))
  first | refine XR_a (op_shlC 1 rfl rfl (by decide) (by simp only [inK]; omega)) rfl rfl ?_ | refine XR_a (op_shlI 1 rfl rfl (by decide) (by simp only [inK]; omega)) rfl rfl ?_ | refine XR_a (op_shlN 1 rfl rfl (by decide)) rfl rfl ?_
  refine XV rfl rfl rfl ?_
  refine XR_a (op_and1 rfl rfl) rfl rfl ?_
  refine XR_as (.int .i64 (y : Int)) (by rw [hy]) ?_
  refine XR_a (op_orS (m := turnI n i * 2) (n := y) rfl rfl (by omega) (by omega)) rfl rfl ?_
  refine XR_as (.int .i64 (turnI n (i + 1) : Nat)) (by rw [or_even _ _ (by omega), hts]) ?_
  refine XA rfl rfl rfl (XR_nil (X_reg (XV rfl rfl rfl ?_)))
  first | refine XR_a (op_shrC 1 rfl rfl (by decide)) rfl rfl ?_ | refine XR_a (op_shrN 1 rfl rfl (by decide)) rfl rfl ?_
  refine XR_as (.int .i64 (n / 2 ^ (i + 1))) (by rw [ediv_succ n i]; rfl) ?_
  refine XA rfl rfl rfl (XR_nil (X_blk (X_reg ?_)))
  first | refine XR_a (op_addN (n := 1) rfl rfl (by simp only [inK]; omega)) rfl rfl ?_ | refine XR_a (op_addI rfl rfl (by simp only [inK]; omega)) rfl rfl ?_ | refine XR_a (op_add rfl rfl) rfl rfl ?_
  refine XV rfl rfl rfl (XR_nil ?_)
  exact X_again (i + 1) (.cons rfl (.cons rfl (.cons rfl (.cons rfl (.nil _))))) ⟨rfl, by omega⟩ (by omega)
 ·refine X_exit rfl (X_seq (X_reg (XV rfl rfl rfl (XA rfl rfl rfl (XR_nil ?_)))))
  refine X_ret (.cons (.tmp rfl) .nil) ?_
  obtain rfl : i = k := by omega
  exact ⟨rfl, rfl⟩
@[reducible] def cC (c : QC) : List Value := [nV c.1, nV c.2.1, nV c.2.2]
@[reducible] def rC (r : QR) : List Value := [nV r.1, nV r.2.1, .bool r.2.2]
def cellsR (R : Nat → QR) (n : Nat) : List Value := (List.range n).flatMap fun m => rC (R m)
theorem cellsR_len (R : Nat → QR) (n : Nat) : (cellsR R n).length = n * 3 := by
 unfold cellsR; rw [flat_length _ 3 (fun _ => rfl), List.length_range]
theorem cellsR_get (R : Nat → QR) {n m j : Nat} (hm : m < n) (hj : j < 3) : (cellsR R n)[m * 3 + j]? = (rC (R m))[j]? := by
 unfold cellsR
 rw [flat_get _ 3 (fun _ => rfl) _ _ _ (by rw [List.length_range]; exact hm) hj, List.getElem_range]
theorem cellsR_congr {R R' : Nat → QR} {n : Nat} (h : ∀ m, m < n → R m = R' m) : cellsR R n = cellsR R' n := by
 unfold cellsR
 rw [List.flatMap_def, List.flatMap_def]
 congr 1
 exact List.map_congr_left fun m hm => by rw [h m (List.mem_range.1 hm)]
theorem cellsR_zero (n : Nat) : (List.replicate n [Value.int .i64 0, .int .i64 0, .bool false]).flatten = cellsR (fun _ => zeroQ) n := by
 unfold cellsR
 rw [List.flatMap_def, List.map_const', List.length_range]; rfl
theorem cellsR_set (R : Nat → QR) {n m : Nat} (hm : m < n) (r : QR) : (cellsR R n).take (m * 3) ++ rC r ++ (cellsR R n).drop (m * 3 + 3) = cellsR (fun i => if i = m then r else R i) n := by
 have hl := cellsR_len R n
 apply List.ext_getElem?
 intro q
 obtain ⟨i, j, hj, rfl⟩ : ∃ i j, j < 3 ∧ q = i * 3 + j := ⟨q / 3, q % 3, Nat.mod_lt _ (by omega), by omega⟩
 rw [List.append_assoc]
 by_cases h1 : i < m
 ·rw [List.getElem?_append_left (by rw [List.length_take]; omega), List.getElem?_take, if_pos (by omega), cellsR_get _ (by omega) hj, cellsR_get _ (by omega) hj, if_neg (by omega)]
 ·by_cases h2 : i = m
  ·subst h2
   rw [List.getElem?_append_right (by rw [List.length_take]; omega), List.length_take, Nat.min_eq_left (by omega), Nat.add_sub_cancel_left, List.getElem?_append_left (by simpa using hj), cellsR_get _ hm hj, if_pos rfl]
  ·rw [List.getElem?_append_right (by rw [List.length_take]; omega), List.length_take, Nat.min_eq_left (by omega), List.getElem?_append_right (by simp; omega), List.getElem?_drop]
   rw [show m * 3 + 3 + (i * 3 + j - m * 3 - (rC r).length) = i * 3 + j by simp; omega]
   by_cases h3 : i < n
   ·rw [cellsR_get _ h3 hj, cellsR_get _ h3 hj, if_neg h2]
   ·rw [List.getElem?_eq_none (by rw [cellsR_len]; omega), List.getElem?_eq_none (by rw [cellsR_len]; omega)]
theorem one_rC (r : QR) : ∀ u ∈ rC r, Value.one u = true := by
 intro u hu
 simp only [rC, List.mem_cons, List.not_mem_nil, or_false] at hu
 rcases hu with rfl | rfl | rfl <;> rfl
theorem one_cC (c : QC) : ∀ u ∈ cC c, Value.one u = true := by
 intro u hu
 simp only [cC, List.mem_cons, List.not_mem_nil, or_false] at hu
 rcases hu with rfl | rfl | rfl <;> rfl
theorem codes_spec {n c : Nat} {A : Option Addr} {li : List Int} {h0 : Heap} (hr : Rd h0 A (li.map iV)) (hl : li.length = n) (hn : n ≤ 17592186044416) :
  Ret Tryz.prog 156 [.slice A n c] h0 fun v h' =>
   ∃ w, v = retVal [w, .int .i64 (errC li)] ∧ Ext h0 h' ∧ (rightC li → St h0.size h0 h' [row 256 3 w ((qcodes (li.map Int.toNat)).flatMap cC)]) ∧ (¬ rightC li → w = .slice none 0 0) := by
 refine ret_of_X Tryz.func156 rfl rfl fun w0 hw0 => ?_
 simp only [argE, Nat.zero_add, Nat.reduceAdd]
 refine X_seq (X_reg (XA rfl rfl rfl (XA rfl rfl rfl (XR_nil (X_seq (X_reg (XV rfl rfl rfl ?_)))))))
 refine XR_wa (opl_call (cvalues_spec hr hl hn) rfl (by kernel_rfl)) rfl rfl rfl ?_
 rintro _ hp ⟨w, rfl, hx, hy, hz⟩
 refine XV rfl rfl rfl (XR_a (op_extract rfl rfl) rfl rfl (XR_a (op_extract rfl rfl) rfl rfl (XA rfl rfl rfl (XA rfl rfl rfl (XR_nil (X_seq (X_seq (X_reg (XV rfl rfl rfl ?_)))))))))
 refine XR_a (op_neq rfl rfl) rfl rfl ?_
 refine XR_nil ?_
 refine X_if rfl (fun h => ?_) (fun h => ?_)
 ·refine X_seq (X_reg (XV rfl rfl rfl (XA rfl rfl rfl (XA rfl rfl rfl (XR_nil ?_)))))
  refine X_ret (.cons (.tmp rfl) (.cons (.tmp rfl) .nil)) ?_
  have hR : ¬ rightC li := fun hh => h (errC_zero.2 hh)
  exact ⟨_, rfl, hx, fun hh => absurd hh hR, fun _ => rfl⟩
 ·have hR : rightC li := errC_zero.1 (Decidable.not_not.1 h)
  have st := hy hR
  have hok := hR.ok
  have hr2 : Rd h0 A ((li.map Int.toNat).map nV) := by rw [nV_iV, toNat_map fun x hx => (hR.2.1.2 x hx).1]; exact hr
  have hl2 : (li.map Int.toNat).length = n := by rw [List.length_map]; exact hl
  obtain ⟨ls, hl3⟩ : ∃ ls, li.map Int.toNat = ls := ⟨_, rfl⟩
  rw [hl3] at hok hr2 hl2 st ⊢
  have h320 := hok.2.1
  have h1n := hok.1
  refine X_skip (X_seq (X_reg (XA rfl rfl rfl (XR_nil (X_seq (X_seq (X_reg (XV rfl rfl rfl ?_))))))))
  refine XR_a (op_len rfl rfl rfl) rfl rfl ?_
  refine XV rfl rfl rfl (XR_nil (X_block ?_))
  replace st := (st.nilrow 256 3).perm (List.Perm.swap _ _ _)
  obtain ⟨g, o, rfl, hc⟩ := hr2.at_ (by rw [List.length_map]; omega)
  refine X_loop (fun s => n - s.1) (fun s => [(0, .slice (some ⟨g, o, none⟩) n c), (4, w), (6, s.2), (17, .slice (some ⟨g, o, none⟩) n c), (18, .int .i64 (n : Nat)), (19, .int .i64 (s.1 : Nat))])
   (fun (s : Nat × Value) hp => St h0.size h0 hp [row 3 1 w ((vals ls).map nV), row 256 3 s.2 ((codesTo ls s.1).flatMap cC)] ∧ s.1 ≤ n)
   (0, .slice none 0 0) (.cons rfl (.cons rfl (.cons rfl (.cons rfl (.cons rfl (.cons rfl (.nil _))))))) ⟨st, by simp⟩ ?_
  clear st hy hx
  rintro ⟨i, w2⟩ hp ⟨st, hi⟩
  simp only at st hi ⊢
  refine X_seq (X_reg ?_)
  refine XR_a (op_lss rfl rfl) rfl rfl ?_
  refine XR_nil (X_seq ?_)
  refine X_if rfl (fun h => ?_) (fun h => ?_)
  ·have hlt : i < ls.length := by omega
   have hci := cellH_ext (a := ⟨g, o + i, none⟩) st.low (hc i (nV ls[i]) (by simp [hlt]))
   have hcs := codesTo_succ ls i
   have hcl := codesTo_len ls i
   have h15 := hok.2.2.1 ls[i] (List.getElem_mem hlt)
   refine X_skip (X_seq (X_block (X_seq (X_reg (XV rfl rfl rfl ?_)))))
   first | refine XR_a (op_index1 rfl rfl rfl (by omega)) rfl rfl ?_ | refine XR_a (op_index rfl rfl rfl (by omega)) rfl rfl ?_
   refine XR_a (op_ld (hci) rfl rfl rfl) rfl rfl ?_
   refine XA rfl rfl rfl (XA rfl rfl rfl (XR_nil (X_seq (X_reg (XV rfl rfl rfl ?_)))))
   refine XR_a (op_gtr rfl rfl) rfl rfl ?_
   refine XR_nil ?_
   refine X_if rfl (fun h => ?_) (fun h => ?_)
   ·have h0 : ls[i] ≠ 0 := by omega
    have e : codeOf ls i = [(i, turnV (val ls i) ls[i], ls[i])] := by unfold codeOf; rw [getD_get hlt, if_neg h0]
    rw [e] at hcs
    have hv := val_lt hok hlt h0
    have hv2 := fst_bd hok h15
    have hvi : (vals ls)[i]? = some (val ls i) := by simp [vals, hlt]
    obtain ⟨A7, n7, c7, rfl, hlen7, _, _, hrd7⟩ := st.row 0 rfl
    rw [List.length_map, vals_length] at hlen7
    obtain ⟨g7, o7, rfl, hc7⟩ := hrd7.at_ (by rw [List.length_map, vals_length]; omega)
    have hwd : wd 15 (ls[i] : Int) = ls[i] := by unfold wd; omega
    refine X_reg (XV rfl rfl rfl (XV rfl rfl rfl (XV rfl rfl rfl (XV rfl rfl rfl ?_))))
    first | refine XR_a (op_index1 rfl rfl rfl (by omega)) rfl rfl ?_ | refine XR_a (op_index rfl rfl rfl (by omega)) rfl rfl ?_
    refine XR_a (op_ld (hc7 i _ (map_get_nV hvi)) rfl rfl rfl) rfl rfl ?_
    refine XV rfl rfl rfl ?_
    refine XR_wa (opl_call (turn_spec (val ls i : Int) (ls[i] : Int) _ (by simp only [inK]; omega)) rfl (by kernel_rfl)) rfl rfl rfl ?_
    rintro _ _ ⟨rfl, rfl⟩
    rw [hwd, show turnI (val ls i : Int) ls[i] = turnV (val ls i) ls[i] from rfl]
    refine XV rfl rfl rfl ?_
    refine XR_a (op_build (ps := [(0, nV i), (1, nV (turnV (val ls i) ls[i])), (2, nV ls[i])]) (cs := (cC (i, turnV (val ls i) ls[i], ls[i])).toArray) rfl rfl) rfl rfl ?_
    refine XR_wa (opl_varA (us := cC (i, turnV (val ls i) ls[i], ls[i])) rfl rfl rfl rfl (by kernel_rfl)) rfl rfl rfl ?_
    rintro _ hp ⟨A, rfl, hx, hrd⟩
    replace st := st.ext hx
    refine XR_wa (opl_append st 1 rfl (hrd) (rfl) (one_cC _) (by rw [flat_length _ 3 (fun _ => rfl)]; simp; omega) rfl rfl rfl rfl rfl rfl rfl) rfl rfl rfl fun v hp st => ?_
    simp only [List.set_cons_zero, List.set_cons_succ] at st
    have e2 : (codesTo ls i).flatMap cC ++ cC (i, turnV (val ls i) ls[i], ls[i]) = (codesTo ls (i + 1)).flatMap cC := by rw [hcs, List.flatMap_append]; simp
    rw [e2] at st
    refine XA rfl rfl rfl (XR_nil (X_blk (X_reg ?_)))
    first | refine XR_a (op_addN (n := 1) rfl rfl (by simp only [inK]; omega)) rfl rfl ?_ | refine XR_a (op_addI rfl rfl (by simp only [inK]; omega)) rfl rfl ?_ | refine XR_a (op_add rfl rfl) rfl rfl ?_
    refine XV rfl rfl rfl (XR_nil ?_)
    exact X_again (i + 1, _) (.cons rfl (.cons rfl (.cons rfl (.cons rfl (.cons rfl (.cons rfl (.nil _))))))) ⟨st, by simp only; omega⟩ (by simp only; omega)
   ·refine X_skip (X_blk (X_reg ?_))
    first | refine XR_a (op_addN (n := 1) rfl rfl (by simp only [inK]; omega)) rfl rfl ?_ | refine XR_a (op_addI rfl rfl (by simp only [inK]; omega)) rfl rfl ?_ | refine XR_a (op_add rfl rfl) rfl rfl ?_
    refine XV rfl rfl rfl (XR_nil ?_)
    have h0 : ls[i] = 0 := by omega
    have e : codeOf ls i = [] := by unfold codeOf; rw [getD_get hlt, if_pos h0]
    rw [e, List.append_nil] at hcs
    rw [← hcs] at st
    exact X_again (i + 1, w2) (.cons rfl (.cons rfl (.cons rfl (.cons rfl (.cons rfl (.cons rfl (.nil _))))))) ⟨st, by simp only; omega⟩ (by simp only; omega)
  ·refine X_exit rfl (X_seq (X_reg (XV rfl rfl rfl (XA rfl rfl rfl (XA rfl rfl rfl (XR_nil ?_))))))
   refine X_ret (.cons (.tmp rfl) (.cons (.tmp rfl) .nil)) ?_
   obtain rfl : i = n := by omega
   refine ⟨_, by rw [errC_zero.2 hR], st.low, fun _ => ?_, fun hh => absurd hR hh⟩
   unfold qcodes
   rw [hl2]
   exact st.tail
end Go.Bn
end
