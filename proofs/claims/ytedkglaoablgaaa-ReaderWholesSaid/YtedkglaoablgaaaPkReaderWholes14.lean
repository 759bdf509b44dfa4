/- Packed texts of a claim: what its theorem uses, joined. -/
import Derived.RecoverIn
import Derived.Test.YtedkglaoablgaaaPkReaderWholes13
section
set_option linter.unusedVariables false
set_option linter.unusedSimpArgs false
set_option maxHeartbeats 4000000
set_option maxRecDepth 20000
namespace Go.Bn
open Go Proofs
def tokE (t : Tok) (size n : Nat) : Nat := if (n : Int) < t.dist then 3 else if size - n < t.size then 5 else 0
def tokO (t : Tok) (size : Nat) (out : List UInt8) : List UInt8 := if tokE t size out.length = 0 then expT t out else out
theorem ptoken2 {B pk q t1 t2 size : Nat} {t : Tok} {v : Value} {out : List UInt8} {F : List Res} {h0 : Heap} (st0 : St B h0 h0 (row 5 1 v (out.map byteV) :: pkG pk q t1 t2 size :: F)) (hs : size ≤ 1048576) (ho : out.length ≤ size) (ht : t.right) (hb : 0 ≤ t.byte ∧ t.byte < 256) :
    Ret Try.prog 214 [.pointer (some ⟨pk, 0, none⟩), v, .agg (tokV t).toArray] h0
      fun u h' => ∃ v', u = retVal [v', nV (tokE t size out.length)] ∧ St B h0 h' (row 5 1 v' ((tokO t size out).map byteV) :: pkG pk q t1 t2 size :: F) := by
  refine (ptoken_spec st0 hs ho ht hb).mono ?_
  rintro u h' ⟨v', h⟩
  refine ⟨v', ?_⟩
  unfold tokO tokE
  rcases h with ⟨h1, rfl, st⟩ | ⟨h1, h2, rfl, st⟩ | ⟨h1, h2, rfl, st⟩
  · rw [if_pos h1]; exact ⟨rfl, st⟩
  · rw [if_neg h1, if_pos h2]; exact ⟨rfl, st⟩
  · rw [if_neg h1, if_neg h2]; exact ⟨rfl, st⟩
theorem pmore_spec {B pk q t1 t2 size m c a : Nat} {A : Option Addr} {l out : List UInt8} {la lb : List Nat} {v : Value} {F : List Res} {h0 : Heap} (st0 : St B h0 h0 (row 5 1 v (out.map byteV) :: rdG q A m c a :: tabR t1 (qcodes la) 9 :: tabR t2 (qcodes lb) 9 :: pkG pk q t1 t2 size :: F))
    (oka : lensOK la) (okb : lensOK lb) (na : la.length = 273) (nb : lb.length = 30) (hrB : ∀ h', Low B h0 h' → Rd h' A (l.map byteV)) (hl : l.length = m) (hm : m ≤ 1073741824) (ha : a ≤ 8 * m) (hs : size ≤ 1048576) (ho : out.length ≤ size) :
    Ret Try.prog 212 [.pointer (some ⟨pk, 0, none⟩), v] h0
      fun u h' => ∃ v', u = retVal [v', .bool (mvP la lb (bitsB l) size a out).2.2.1, nV (mvP la lb (bitsB l) size a out).2.2.2] ∧
        St B h0 h' (row 5 1 v' ((mvP la lb (bitsB l) size a out).2.1.map byteV) :: rdG q A m c (mvP la lb (bitsB l) size a out).1 :: tabR t1 (qcodes la) 9 :: tabR t2 (qcodes lb) 9 :: pkG pk q t1 t2 size :: F) := by
  have hbl := bitsB_length l
  obtain ⟨M, hM⟩ : ∃ M, mvP la lb (bitsB l) size a out = M := ⟨_, rfl⟩
  rw [hM]
  unfold mvP at hM
  obtain ⟨N, hN⟩ : ∃ N, nextT la lb (bitsB l) a = N := ⟨_, rfl⟩
  rw [hN] at hM
  have hnx := nextT_at (la := la) (lb := lb) (bs := bitsB l) (a := a) oka okb (by omega)
  rw [hN] at hnx
  have hC1 := clsT_num (fr := 257) (bs := bitsB l) (a := a) oka (by omega) (by omega)
  have hA1 := clsT_at (fr := 257) (bs := bitsB l) (a := a) oka (by omega)
  unfold nextT at hN
  obtain ⟨C, hC⟩ : ∃ C, clsT la 257 (bitsB l) a = C := ⟨_, rfl⟩
  rw [hC] at hN hC1 hA1
  have hC2 := clsT_num (fr := 0) (bs := bitsB l) (a := C.2.1) okb (by omega) (by omega)
  obtain ⟨D, hD⟩ : ∃ D, clsT lb 0 (bitsB l) C.2.1 = D := ⟨_, rfl⟩
  rw [hD] at hN hC2
  refine ret_of_X Try.func212 rfl rfl fun w0 hw0 => ?_
  simp only [argE, Nat.zero_add, Nat.reduceAdd]
  have st := st0
  obtain ⟨A1, n1, c1, rfl, hl1, hc1, _⟩ := st.row 0 rfl
  have hl1 : out.length = n1 := by simpa using hl1
  refine X_seq ?_
  refine X_reg ?_
  refine XR_a (op_assign rfl) rfl rfl ?_
  refine XR_a (op_assign rfl) rfl rfl ?_
  refine XR_a (op_assign rfl) rfl rfl ?_
  refine XR_nil ?_
  refine X_seq ?_
  refine X_reg ?_
  refine XR_a (op_move rfl) rfl rfl ?_
  refine XR_a (op_move rfl) rfl rfl ?_
  refine XR_a (op_nilCheck rfl) rfl rfl ?_
  first | refine XR_a (op_field0 rfl rfl) rfl rfl ?_ | refine XR_a (op_fieldn rfl rfl) rfl rfl ?_
  refine XR_a (op_ld (st.cell 4 (i := 1) rfl rfl) rfl rfl rfl) rfl rfl ?_
  replace st := St.reF [_, _, _, _, _] 5 st [1, 2, 4, 0, 3] (by decide)
  simp only [List.map_cons, List.map_nil, getR, List.cons_append, List.nil_append] at st
  refine XR_wa (opl_call (pclass_spec (fr := 257) st.here oka (fun h' hh => hrB h' (st.low.trans hh)) hl hm ha (by omega) (by omega)) rfl (by kernel_rfl)) rfl rfl rfl ?_
  rintro _ hp ⟨rfl, st2⟩
  rw [hC] at st2 ⊢
  replace st := st.trans st2
  clear st2
  replace st := St.reF [_, _, _, _, _] 5 st [3, 0, 1, 4, 2] (by decide)
  simp only [List.map_cons, List.map_nil, getR, List.cons_append, List.nil_append] at st
  refine XR_a (op_move rfl) rfl rfl ?_
  refine XR_a (op_extract rfl rfl) rfl rfl ?_
  refine XR_a (op_extract rfl rfl) rfl rfl ?_
  refine XR_wa (opl_new rfl) rfl rfl rfl ?_
  rintro _ hp ⟨p7, rfl, hnew⟩
  replace st := st.new hnew
  replace st := St.reF [_, _, _, _, _, _] 6 st [1, 2, 3, 4, 5, 0] (by decide)
  simp only [List.map_cons, List.map_nil, getR, List.cons_append, List.nil_append] at st
  refine XR_wn (opl_store_whole (us := clsV C.1) st 5 rfl rfl rfl rfl rfl (clsV_one _) rfl) rfl rfl fun _ hp st => ?_
  simp only [List.set_cons_zero, List.set_cons_succ] at st
  refine XR_a (op_assign rfl) rfl rfl ?_
  refine XR_nil ?_
  refine X_seq ?_
  refine X_seq ?_
  refine X_reg ?_
  refine XR_a (op_move rfl) rfl rfl ?_
  refine XR_a (op_neq rfl rfl) rfl rfl ?_
  refine XR_nil ?_
  refine X_if rfl (fun h => ?_) (fun h => ?_)
  · rw [if_pos (by omega)] at hN
    subst hN
    simp only [if_pos] at hM
    rw [if_pos (by omega)] at hM
    subst hM
    refine X_seq ?_
    refine X_reg ?_
    refine XR_a (op_move rfl) rfl rfl ?_
    refine XR_a (op_move rfl) rfl rfl ?_
    refine XR_a (op_assign rfl) rfl rfl ?_
    refine XR_a (op_assign rfl) rfl rfl ?_
    refine XR_a (op_assign rfl) rfl rfl ?_
    refine XR_nil ?_
    refine X_ret (.cons (.tmp rfl) (.cons (.tmp rfl) (.cons (.tmp rfl) .nil))) ?_
    exact ⟨_, rfl, (St.reF [_, _, _, _, _, _] 6 st [5, 0, 1, 2, 3, 4] (by decide)).tail⟩
  · have hCe : C.2.2 = 0 := by omega
    refine X_skip ?_
    refine X_seq ?_
    refine X_seq ?_
    refine X_reg ?_
    first | refine XR_a (op_field0 rfl rfl) rfl rfl ?_ | refine XR_a (op_fieldn rfl rfl) rfl rfl ?_
    refine XR_a (op_ld (st.cell 5 (i := 0) rfl rfl) rfl rfl rfl) rfl rfl ?_
    refine XR_a (op_eql rfl rfl) rfl rfl ?_
    refine XR_nil ?_
    refine X_if rfl (fun h => ?_) (fun h => ?_)
    · rw [if_pos (by omega)] at hN
      subst hN
      simp only [if_pos] at hM
      rw [if_neg (by omega)] at hM
      subst hM
      replace st := St.reF [_, _, _, _, _, _] 6 st [1, 4, 0, 2, 3, 5] (by decide)
      simp only [List.map_cons, List.map_nil, getR, List.cons_append, List.nil_append] at st
      refine X_seq ?_
      refine X_reg ?_
      refine XR_a (op_move rfl) rfl rfl ?_
      refine XR_a (op_move rfl) rfl rfl ?_
      refine XR_a (op_move rfl) rfl rfl ?_
      refine XR_a (op_len rfl rfl rfl) rfl rfl ?_
      refine XR_wa (opl_call (pend_spec (so := n1) st (hrB _ st.low) hl hm (by omega)) rfl (by kernel_rfl)) rfl rfl rfl ?_
      rintro _ _ ⟨rfl, rfl⟩
      refine XR_a (op_assign rfl) rfl rfl ?_
      refine XR_a (op_assign rfl) rfl rfl ?_
      refine XR_a (op_assign rfl) rfl rfl ?_
      refine XR_nil ?_
      refine X_ret (.cons (.tmp rfl) (.cons (.tmp rfl) (.cons (.tmp rfl) .nil))) ?_
      rw [hl1]
      exact ⟨_, rfl, (St.reF [_, _, _, _, _, _] 6 st [5, 2, 0, 3, 4, 1] (by decide)).tail⟩
    · rw [if_neg (by omega)] at hN
      refine X_skip ?_
      refine X_seq ?_
      refine X_reg ?_
      refine XR_a (op_ldA (vs := clsV C.1) (st.cells 5 rfl) rfl rfl rfl rfl) rfl rfl ?_
      refine XR_a (op_build (ps := [(0, .agg (clsV C.1).toArray)]) (cs := (syV ⟨C.1, Kls.nil, false⟩).toArray) rfl rfl) rfl rfl ?_
      refine XR_wa (opl_new rfl) rfl rfl rfl ?_
      rintro _ hp ⟨p9, rfl, hnew⟩
      replace st := st.new hnew
      replace st := St.reF [_, _, _, _, _, _, _] 7 st [1, 2, 3, 4, 5, 6, 0] (by decide)
      simp only [List.map_cons, List.map_nil, getR, List.cons_append, List.nil_append] at st
      refine XR_wn (opl_store_whole (us := syV ⟨C.1, Kls.nil, false⟩) st 6 rfl rfl rfl rfl rfl (syV_one _) rfl) rfl rfl fun _ hp st => ?_
      simp only [List.set_cons_zero, List.set_cons_succ] at st
      refine XR_nil ?_
      refine X_seq ?_
      refine X_seq ?_
      refine X_reg ?_
      first | refine XR_a (op_field0 rfl rfl) rfl rfl ?_ | refine XR_a (op_fieldn rfl rfl) rfl rfl ?_
      refine XR_a (op_ld (st.cell 5 (i := 0) rfl rfl) rfl rfl rfl) rfl rfl ?_
      refine XR_a (op_gtr rfl rfl) rfl rfl ?_
      refine XR_nil ?_
      refine X_if rfl (fun h => ?_) (fun h => ?_)
      · rw [if_pos (by omega)] at hN
        replace st := St.reF [_, _, _, _, _, _, _] 7 st [1, 3, 4, 0, 2, 5, 6] (by decide)
        simp only [List.map_cons, List.map_nil, getR, List.cons_append, List.nil_append] at st
        refine X_seq ?_
        refine X_seq ?_
        refine X_reg ?_
        refine XR_a (op_move rfl) rfl rfl ?_
        refine XR_a (op_move rfl) rfl rfl ?_
        refine XR_a (op_nilCheck rfl) rfl rfl ?_
        first | refine XR_a (op_field0 rfl rfl) rfl rfl ?_ | refine XR_a (op_fieldn rfl rfl) rfl rfl ?_
        refine XR_a (op_ld (st.cell 2 (i := 2) rfl rfl) rfl rfl rfl) rfl rfl ?_
        refine XR_wa (opl_call (pclass_spec (fr := 0) st.here okb (fun h' hh => hrB h' (st.low.trans hh)) hl hm (by omega) (by omega) (by omega)) rfl (by kernel_rfl)) rfl rfl rfl ?_
        rintro _ hp ⟨rfl, st2⟩
        rw [hD] at st2 ⊢
        replace st := st.trans st2
        clear st2
        replace st := St.reF [_, _, _, _, _, _, _] 7 st [3, 0, 4, 1, 2, 5, 6] (by decide)
        simp only [List.map_cons, List.map_nil, getR, List.cons_append, List.nil_append] at st
        refine XR_a (op_move rfl) rfl rfl ?_
        refine XR_a (op_extract rfl rfl) rfl rfl ?_
        refine XR_a (op_extract rfl rfl) rfl rfl ?_
        first | refine XR_a (op_field0 rfl rfl) rfl rfl ?_ | refine XR_a (op_fieldn rfl rfl) rfl rfl ?_
        refine XR_wn (opl_store_pts (us := clsV D.1) st 6 rfl rfl rfl rfl rfl (clsV_one _) (by show 3 + 3 ≤ 7; omega)) rfl rfl fun _ hp st => ?_
        simp only [List.set_cons_zero, List.set_cons_succ] at st
        replace st : St B h0 hp (row 5 1 (.slice A1 n1 c1) (out.map byteV) :: rdG q A m c D.2.1 :: tabR t1 (qcodes la) 9 :: tabR t2 (qcodes lb) 9 :: pkG pk q t1 t2 size :: pt p7 120 (clsV C.1) :: pt p9 122 (syV ⟨C.1, D.1, false⟩) :: F) := st
        refine XR_a (op_assign rfl) rfl rfl ?_
        refine XR_nil ?_
        refine X_seq ?_
        refine X_reg ?_
        refine XR_a (op_move rfl) rfl rfl ?_
        refine XR_a (op_neq rfl rfl) rfl rfl ?_
        refine XR_nil ?_
        refine X_if rfl (fun h => ?_) (fun h => ?_)
        · rw [if_pos (by omega)] at hN
          subst hN
          simp only [if_pos] at hM
          rw [if_pos (by omega)] at hM
          subst hM
          refine X_seq ?_
          refine X_reg ?_
          refine XR_a (op_move rfl) rfl rfl ?_
          refine XR_a (op_move rfl) rfl rfl ?_
          refine XR_a (op_assign rfl) rfl rfl ?_
          refine XR_a (op_assign rfl) rfl rfl ?_
          refine XR_a (op_assign rfl) rfl rfl ?_
          refine XR_nil ?_
          refine X_ret (.cons (.tmp rfl) (.cons (.tmp rfl) (.cons (.tmp rfl) .nil))) ?_
          exact ⟨_, rfl, (St.reF [_, _, _, _, _, _, _] 7 st [5, 6, 0, 1, 2, 3, 4] (by decide)).tail.tail⟩
        · rw [if_neg (by omega)] at hN
          obtain ⟨J, hJ⟩ : ∃ J, joinT ⟨C.1, D.1, true⟩ = J := ⟨_, rfl⟩
          rw [hJ] at hN
          refine X_skip ?_
          refine X_reg ?_
          first | refine XR_a (op_field0 rfl rfl) rfl rfl ?_ | refine XR_a (op_fieldn rfl rfl) rfl rfl ?_
          refine XR_wn (opl_store_pt st 6 rfl rfl rfl rfl rfl (rfl)) rfl rfl fun _ hp st => ?_
          simp only [List.set_cons_zero, List.set_cons_succ] at st
          refine XR_nil ?_
          refine X_seq ?_
          refine X_reg ?_
          refine XR_a (op_ldA (vs := syV ⟨C.1, D.1, true⟩) (st.cells 6 rfl) rfl rfl rfl rfl) rfl rfl ?_
          refine XR_wa (opl_call (sjoin_spec (r := ⟨C.1, D.1, true⟩) ⟨hC1.2.2.1, hC1.2.2.2⟩ ⟨hC2.2.2.1, hC2.2.2.2⟩ _) rfl (by kernel_rfl)) rfl rfl rfl ?_
          rintro _ hp ⟨rfl, hx5⟩
          replace st := st.ext hx5
          rw [hJ]
          refine XR_a (op_move rfl) rfl rfl ?_
          refine XR_a (op_extract rfl rfl) rfl rfl ?_
          refine XR_a (op_extract rfl rfl) rfl rfl ?_
          refine XR_wa (opl_new rfl) rfl rfl rfl ?_
          rintro _ hp ⟨p10, rfl, hnew⟩
          replace st := st.new hnew
          replace st := St.reF [_, _, _, _, _, _, _, _] 8 st [1, 5, 2, 3, 4, 0, 6, 7] (by decide)
          simp only [List.map_cons, List.map_nil, getR, List.cons_append, List.nil_append] at st
          refine XR_wn (opl_store_whole (us := tokV J.1) st 5 rfl rfl rfl rfl rfl (tokV_one _) rfl) rfl rfl fun _ hp st => ?_
          simp only [List.set_cons_zero, List.set_cons_succ] at st
          refine XR_a (op_assign rfl) rfl rfl ?_
          refine XR_nil ?_
          refine X_seq ?_
          refine X_seq ?_
          refine X_reg ?_
          refine XR_a (op_move rfl) rfl rfl ?_
          first | refine XR_a (op_notd rfl) rfl rfl ?_ | refine XR_a (op_not rfl) rfl rfl ?_
          refine XR_nil ?_
          refine X_cond rfl (fun h => ?_) (fun h => ?_)
          · rw [if_neg (by simpa using h)] at hN
            subst hN
            simp only [if_pos] at hM
            rw [if_pos (by omega)] at hM
            subst hM
            refine X_seq ?_
            refine X_reg ?_
            refine XR_a (op_move rfl) rfl rfl ?_
            refine XR_a (op_assign rfl) rfl rfl ?_
            refine XR_a (op_assign rfl) rfl rfl ?_
            refine XR_a (op_assign rfl) rfl rfl ?_
            refine XR_nil ?_
            refine X_ret (.cons (.tmp rfl) (.cons (.tmp rfl) (.cons (.tmp rfl) .nil))) ?_
            exact ⟨_, rfl, (St.reF [_, _, _, _, _, _, _, _] 8 st [5, 6, 7, 0, 2, 3, 4, 1] (by decide)).tail.tail.tail⟩
          · rw [if_pos (by simpa using h)] at hN
            subst hN
            rw [if_neg (by simp)] at hM
            obtain ⟨_, _, hjr, hjb0, hjb1⟩ := hnx.2.2 rfl
            simp only at hM hjr hjb0 hjb1
            refine X_skip ?_
            refine X_seq ?_
            refine X_reg ?_
            refine XR_a (op_move rfl) rfl rfl ?_
            refine XR_a (op_move rfl) rfl rfl ?_
            refine XR_a (op_ldA (vs := tokV J.1) (st.cells 5 rfl) rfl rfl rfl rfl) rfl rfl ?_
            refine XR_wa (opl_call (ptoken2 (t := J.1) st.here hs ho hjr ⟨hjb0, hjb1⟩) rfl (by kernel_rfl)) rfl rfl rfl ?_
            rintro _ hp ⟨v9, rfl, st2⟩
            replace st := st.trans st2
            clear st2
            have hfin : M.2.1 = tokO J.1 size out ∧ M.2.2.1 = decide (tokE J.1 size out.length ≠ 0) ∧ M.2.2.2 = tokE J.1 size out.length := by
              rw [← hM]
              unfold tokO tokE
              by_cases h1 : (out.length : Int) < J.1.dist
              · rw [if_pos h1, if_pos h1]; simp
              · by_cases h2 : size - out.length < J.1.size
                · rw [if_neg h1, if_pos h2, if_neg h1, if_pos h2]; simp
                · rw [if_neg h1, if_neg h2, if_neg h1, if_neg h2]; simp
            obtain ⟨hf1, hf2, hf3⟩ := hfin
            refine XR_a (op_move rfl) rfl rfl ?_
            refine XR_a (op_extract rfl rfl) rfl rfl ?_
            refine XR_a (op_extract rfl rfl) rfl rfl ?_
            refine XR_a (op_assign rfl) rfl rfl ?_
            refine XR_a (op_assign rfl) rfl rfl ?_
            refine XR_nil ?_
            refine X_seq ?_
            refine X_reg ?_
            refine XR_a (op_move rfl) rfl rfl ?_
            refine XR_a (op_move rfl) rfl rfl ?_
            refine XR_a (op_neq rfl rfl) rfl rfl ?_
            refine XR_as (.bool (decide (tokE J.1 size out.length ≠ 0))) (congrArg Value.bool (decide_eq_decide.2 ⟨fun hh => by omega, fun hh => by omega⟩)) ?_
            refine XR_a (op_move rfl) rfl rfl ?_
            refine XR_a (op_assign rfl) rfl rfl ?_
            refine XR_a (op_assign rfl) rfl rfl ?_
            refine XR_a (op_assign rfl) rfl rfl ?_
            refine XR_nil ?_
            refine X_ret (.cons (.tmp rfl) (.cons (.tmp rfl) (.cons (.tmp rfl) .nil))) ?_
            rw [hf1, hf2, hf3]
            refine ⟨_, rfl, ?_⟩
            have hat : M.1 = D.2.1 := by
              rw [← hM]
              by_cases h1 : (out.length : Int) < J.1.dist
              · rw [if_pos h1]
              · by_cases h2 : size - out.length < J.1.size
                · rw [if_neg h1, if_pos h2]
                · rw [if_neg h1, if_neg h2]
            rw [hat]
            exact (St.reF [_, _, _, _, _, _, _, _] 8 st [5, 6, 7, 0, 2, 3, 4, 1] (by decide)).tail.tail.tail
      · rw [if_neg (by omega)] at hN
        obtain ⟨J, hJ⟩ : ∃ J, joinT ⟨C.1, Kls.nil, false⟩ = J := ⟨_, rfl⟩
        rw [hJ] at hN
        refine X_skip ?_
        refine X_seq ?_
        refine X_reg ?_
        refine XR_a (op_ldA (vs := syV ⟨C.1, Kls.nil, false⟩) (st.cells 6 rfl) rfl rfl rfl rfl) rfl rfl ?_
        refine XR_wa (opl_call (sjoin_spec (r := ⟨C.1, Kls.nil, false⟩) ⟨hC1.2.2.1, hC1.2.2.2⟩ ⟨Int.le_refl 0, by show (0 : Int) < 4294967296; omega⟩ _) rfl (by kernel_rfl)) rfl rfl rfl ?_
        rintro _ hp ⟨rfl, hx5⟩
        replace st := st.ext hx5
        rw [hJ]
        refine XR_a (op_move rfl) rfl rfl ?_
        refine XR_a (op_extract rfl rfl) rfl rfl ?_
        refine XR_a (op_extract rfl rfl) rfl rfl ?_
        refine XR_wa (opl_new rfl) rfl rfl rfl ?_
        rintro _ hp ⟨p10, rfl, hnew⟩
        replace st := st.new hnew
        replace st := St.reF [_, _, _, _, _, _, _, _] 8 st [1, 5, 2, 3, 4, 0, 6, 7] (by decide)
        simp only [List.map_cons, List.map_nil, getR, List.cons_append, List.nil_append] at st
        refine XR_wn (opl_store_whole (us := tokV J.1) st 5 rfl rfl rfl rfl rfl (tokV_one _) rfl) rfl rfl fun _ hp st => ?_
        simp only [List.set_cons_zero, List.set_cons_succ] at st
        refine XR_a (op_assign rfl) rfl rfl ?_
        refine XR_nil ?_
        refine X_seq ?_
        refine X_seq ?_
        refine X_reg ?_
        refine XR_a (op_move rfl) rfl rfl ?_
        first | refine XR_a (op_notd rfl) rfl rfl ?_ | refine XR_a (op_not rfl) rfl rfl ?_
        refine XR_nil ?_
        refine X_cond rfl (fun h => ?_) (fun h => ?_)
        · rw [if_neg (by simpa using h)] at hN
          subst hN
          simp only [if_pos] at hM
          rw [if_pos (by omega)] at hM
          subst hM
          refine X_seq ?_
          refine X_reg ?_
          refine XR_a (op_move rfl) rfl rfl ?_
          refine XR_a (op_assign rfl) rfl rfl ?_
          refine XR_a (op_assign rfl) rfl rfl ?_
          refine XR_a (op_assign rfl) rfl rfl ?_
          refine XR_nil ?_
          refine X_ret (.cons (.tmp rfl) (.cons (.tmp rfl) (.cons (.tmp rfl) .nil))) ?_
          exact ⟨_, rfl, (St.reF [_, _, _, _, _, _, _, _] 8 st [5, 6, 7, 0, 2, 3, 4, 1] (by decide)).tail.tail.tail⟩
        · rw [if_pos (by simpa using h)] at hN
          subst hN
          rw [if_neg (by simp)] at hM
          obtain ⟨_, _, hjr, hjb0, hjb1⟩ := hnx.2.2 rfl
          simp only at hM hjr hjb0 hjb1
          refine X_skip ?_
          refine X_seq ?_
          refine X_reg ?_
          refine XR_a (op_move rfl) rfl rfl ?_
          refine XR_a (op_move rfl) rfl rfl ?_
          refine XR_a (op_ldA (vs := tokV J.1) (st.cells 5 rfl) rfl rfl rfl rfl) rfl rfl ?_
          refine XR_wa (opl_call (ptoken2 (t := J.1) st.here hs ho hjr ⟨hjb0, hjb1⟩) rfl (by kernel_rfl)) rfl rfl rfl ?_
          rintro _ hp ⟨v9, rfl, st2⟩
          replace st := st.trans st2
          clear st2
          have hfin : M.2.1 = tokO J.1 size out ∧ M.2.2.1 = decide (tokE J.1 size out.length ≠ 0) ∧ M.2.2.2 = tokE J.1 size out.length := by
            rw [← hM]
            unfold tokO tokE
            by_cases h1 : (out.length : Int) < J.1.dist
            · rw [if_pos h1, if_pos h1]; simp
            · by_cases h2 : size - out.length < J.1.size
              · rw [if_neg h1, if_pos h2, if_neg h1, if_pos h2]; simp
              · rw [if_neg h1, if_neg h2, if_neg h1, if_neg h2]; simp
          obtain ⟨hf1, hf2, hf3⟩ := hfin
          refine XR_a (op_move rfl) rfl rfl ?_
          refine XR_a (op_extract rfl rfl) rfl rfl ?_
          refine XR_a (op_extract rfl rfl) rfl rfl ?_
          refine XR_a (op_assign rfl) rfl rfl ?_
          refine XR_a (op_assign rfl) rfl rfl ?_
          refine XR_nil ?_
          refine X_seq ?_
          refine X_reg ?_
          refine XR_a (op_move rfl) rfl rfl ?_
          refine XR_a (op_move rfl) rfl rfl ?_
          refine XR_a (op_neq rfl rfl) rfl rfl ?_
          refine XR_as (.bool (decide (tokE J.1 size out.length ≠ 0))) (congrArg Value.bool (decide_eq_decide.2 ⟨fun hh => by omega, fun hh => by omega⟩)) ?_
          refine XR_a (op_move rfl) rfl rfl ?_
          refine XR_a (op_assign rfl) rfl rfl ?_
          refine XR_a (op_assign rfl) rfl rfl ?_
          refine XR_a (op_assign rfl) rfl rfl ?_
          refine XR_nil ?_
          refine X_ret (.cons (.tmp rfl) (.cons (.tmp rfl) (.cons (.tmp rfl) .nil))) ?_
          rw [hf1, hf2, hf3]
          refine ⟨_, rfl, ?_⟩
          have hat : M.1 = C.2.1 := by
            rw [← hM]
            by_cases h1 : (out.length : Int) < J.1.dist
            · rw [if_pos h1]
            · by_cases h2 : size - out.length < J.1.size
              · rw [if_neg h1, if_pos h2]
              · rw [if_neg h1, if_neg h2]
          rw [hat]
          exact (St.reF [_, _, _, _, _, _, _, _] 8 st [5, 6, 7, 0, 2, 3, 4, 1] (by decide)).tail.tail.tail
@[reducible] def pcG (ps pf size : Nat) : Res := pt ps 92 [.pointer (some ⟨pf, 0, none⟩), nV size]
theorem smore_spec {B ps pf size m c a : Nat} {A : Option Addr} {l out : List UInt8} {v : Value} {F : List Res} {h0 : Heap} (st0 : St B h0 h0 (row 5 1 v (out.map byteV) :: fdG pf A m c a false :: pcG ps pf size :: F))
    (hrB : ∀ h', Low B h0 h' → Rd h' A (l.map byteV)) (hl : l.length = m) (hm : m ≤ 1073741824) (hmc : m ≤ c) (ha : a ≤ m) (hs : size ≤ 1048576) (ho : out.length ≤ size) :
    Ret Try.prog 209 [.pointer (some ⟨ps, 0, none⟩), v] h0
      fun u h' => ∃ v' bad a', u = retVal [v', .bool (mvS l size a out).2.2.1, nV (mvS l size a out).2.2.2] ∧ St B h0 h' (row 5 1 v' ((mvS l size a out).2.1.map byteV) :: fdG pf A m c a' bad :: pcG ps pf size :: F) ∧ ((mvS l size a out).2.2.1 = false → a' = (mvS l size a out).1 ∧ bad = false) := by
  obtain ⟨M, hM⟩ : ∃ M, mvS l size a out = M := ⟨_, rfl⟩
  rw [hM]
  unfold mvS at hM
  rw [hl] at hM
  refine ret_of_X Try.func209 rfl rfl fun w0 hw0 => ?_
  simp only [argE, Nat.zero_add, Nat.reduceAdd]
  obtain ⟨A1, n1, c1, rfl, hl1, hc1, _⟩ := st0.row 0 rfl
  have hl1 : out.length = n1 := by simpa using hl1
  have st := St.reF [_, _, _] 3 st0 [1, 0, 2] (by decide)
  simp only [List.map_cons, List.map_nil, getR, List.cons_append, List.nil_append] at st
  refine X_seq ?_
  refine X_reg ?_
  refine XR_a (op_assign rfl) rfl rfl ?_
  refine XR_a (op_assign rfl) rfl rfl ?_
  refine XR_a (op_assign rfl) rfl rfl ?_
  refine XR_nil ?_
  refine X_seq ?_
  refine X_reg ?_
  refine XR_a (op_move rfl) rfl rfl ?_
  by_cases h2 : a + 2 ≤ m
  · refine XR_a (op_nilCheck rfl) rfl rfl ?_
    first | refine XR_a (op_field0 rfl rfl) rfl rfl ?_ | refine XR_a (op_fieldn rfl rfl) rfl rfl ?_
    refine XR_a (op_ld (st.cell 2 (i := 0) rfl rfl) rfl rfl rfl) rfl rfl ?_
    refine XR_wa (opl_call (fnum_at (a + 2) (n := leV ((l.drop a).take 2)) st.here (hrB _ st.low) hl (by omega) ha (getF_at (by rw [wid2, hl]; exact h2)) (by rw [wid2])) rfl (by kernel_rfl)) rfl rfl rfl ?_
    rintro _ hp ⟨rfl, st2⟩
    replace st := st.trans st2
    clear st2
    have hn16 : leV ((l.drop a).take 2) < 65536 := Nat.lt_of_lt_of_le (leV_lt _) (Nat.le_trans (Nat.pow_le_pow_right (by omega) (show _ ≤ 2 by rw [List.length_take]; omega)) (by decide))
    rw [if_neg (by omega)] at hM
    generalize leV ((l.drop a).take 2) = n at *
    refine XR_a (op_convI (k' := .i64) rfl rfl (by simp only [inK]; omega)) rfl rfl ?_
    refine XR_a (op_assign rfl) rfl rfl ?_
    refine XR_nil ?_
    refine X_seq ?_
    refine X_reg ?_
    refine XR_a (op_move rfl) rfl rfl ?_
    by_cases h3 : a + 2 + n ≤ m
    · refine XR_a (op_nilCheck rfl) rfl rfl ?_
      first | refine XR_a (op_field0 rfl rfl) rfl rfl ?_ | refine XR_a (op_fieldn rfl rfl) rfl rfl ?_
      refine XR_a (op_ld (st.cell 2 (i := 0) rfl rfl) rfl rfl rfl) rfl rfl ?_
      refine XR_a (op_move rfl) rfl rfl ?_
      refine XR_wa (opl_call (fbytes_ok (n := n) st.here (hrB _ st.low) hl (by omega) hmc (by omega)) rfl (by kernel_rfl)) rfl rfl rfl ?_
      rintro w hp st2
      replace st := st.trans st2
      clear st2
      obtain ⟨A7, n7, c7, rfl, hlen7, _, _, hrd7⟩ := st.row 1 rfl
      replace st := St.reF [_, _, _, _] 4 st [0, 2, 3, 1] (by decide)
      simp only [List.map_cons, List.map_nil, getR, List.cons_append, List.nil_append] at st
      rw [if_neg (by omega)] at hM
      refine XR_a (op_assign rfl) rfl rfl ?_
      refine XR_nil ?_
      refine X_seq ?_
      refine X_block ?_
      refine X_seq ?_
      refine X_reg ?_
      refine XR_a (op_move rfl) rfl rfl ?_
      refine XR_a (op_nilCheck rfl) rfl rfl ?_
      first | refine XR_a (op_field0 rfl rfl) rfl rfl ?_ | refine XR_a (op_fieldn rfl rfl) rfl rfl ?_
      refine XR_a (op_ld (st.cell 2 (i := 0) rfl rfl) rfl rfl rfl) rfl rfl ?_
      refine XR_wa (opl_call (fok_spec (st.cell 0 rfl rfl)) rfl (by kernel_rfl)) rfl rfl rfl ?_
      rintro _ _ ⟨rfl, rfl⟩
      refine XR_a (op_not rfl) rfl rfl ?_
      refine XR_a (op_assign rfl) rfl rfl ?_
      refine XR_nil ?_
      refine X_else rfl ?_
      refine X_seq ?_
      refine X_reg ?_
      refine XR_a (op_move rfl) rfl rfl ?_
      refine XR_a (op_move rfl) rfl rfl ?_
      refine XR_a (op_nilCheck rfl) rfl rfl ?_
      first | refine XR_a (op_field0 rfl rfl) rfl rfl ?_ | refine XR_a (op_fieldn rfl rfl) rfl rfl ?_
      refine XR_a (op_ld (st.cell 2 (i := 1) rfl rfl) rfl rfl rfl) rfl rfl ?_
      refine XR_a (op_move rfl) rfl rfl ?_
      refine XR_a (op_len rfl rfl rfl) rfl rfl ?_
      refine XR_a (op_subI rfl rfl (by simp only [inK]; omega)) rfl rfl ?_
      refine XR_a (op_gtr rfl rfl) rfl rfl ?_
      refine XR_a (op_assign rfl) rfl rfl ?_
      refine XR_nil ?_
      refine X_if rfl (fun h => ?_) (fun h => ?_)
      · refine X_seq ?_
        refine X_reg ?_
        refine XR_a (op_move rfl) rfl rfl ?_
        refine XR_a (op_assign rfl) rfl rfl ?_
        refine XR_a (op_assign rfl) rfl rfl ?_
        refine XR_a (op_assign rfl) rfl rfl ?_
        refine XR_nil ?_
        refine X_ret (.cons (.tmp rfl) (.cons (.tmp rfl) (.cons (.tmp rfl) .nil))) ?_
        rw [if_pos (by omega)] at hM
        subst hM
        exact ⟨_, _, _, rfl, (St.reF [_, _, _, _] 4 st [3, 1, 0, 2] (by decide)).tail, fun h => by cases h⟩
      · rw [if_neg (by omega)] at hM
        refine X_seq ?_
        refine X_reg ?_
        refine XR_a (op_move rfl) rfl rfl ?_
        refine XR_a (op_gtr rfl rfl) rfl rfl ?_
        refine XR_a (op_assign rfl) rfl rfl ?_
        refine XR_nil ?_
        refine X_if rfl (fun h => ?_) (fun h => ?_)
        · refine X_seq ?_
          refine X_reg ?_
          refine XR_a (op_move rfl) rfl rfl ?_
          refine XR_a (op_move rfl) rfl rfl ?_
          refine XR_wa (opl_append st 1 rfl (hrd7) (hlen7) (one_bytes _) (by simp; omega) rfl rfl rfl rfl rfl rfl rfl) rfl rfl rfl fun v hp st => ?_
          simp only [List.set_cons_zero, List.set_cons_succ] at st
          rw [← List.map_append] at st
          refine XR_a (op_assign rfl) rfl rfl ?_
          refine XR_a (op_assign rfl) rfl rfl ?_
          refine XR_a (op_assign rfl) rfl rfl ?_
          refine XR_nil ?_
          refine X_ret (.cons (.tmp rfl) (.cons (.tmp rfl) (.cons (.tmp rfl) .nil))) ?_
          rw [if_pos (by omega)] at hM
          subst hM
          exact ⟨_, _, _, rfl, (St.reF [_, _, _, _] 4 st [3, 1, 0, 2] (by decide)).tail, fun _ => ⟨rfl, rfl⟩⟩
        · have hn0 : n = 0 := by omega
          rw [if_neg (by omega)] at hM
          refine X_seq ?_
          refine X_reg ?_
          refine XR_a (op_move rfl) rfl rfl ?_
          refine XR_a (op_nilCheck rfl) rfl rfl ?_
          first | refine XR_a (op_field0 rfl rfl) rfl rfl ?_ | refine XR_a (op_fieldn rfl rfl) rfl rfl ?_
          refine XR_a (op_ld (st.cell 2 (i := 0) rfl rfl) rfl rfl rfl) rfl rfl ?_
          refine XR_wa (opl_call (fleft_spec (st.cell 0 rfl rfl) (st.cell 0 rfl rfl) (by omega) (by omega)) rfl (by kernel_rfl)) rfl rfl rfl ?_
          rintro _ _ ⟨rfl, rfl⟩
          refine XR_a (op_gtr rfl rfl) rfl rfl ?_
          refine XR_a (op_assign rfl) rfl rfl ?_
          refine XR_nil ?_
          refine X_if rfl (fun h => ?_) (fun h => ?_)
          · refine X_seq ?_
            refine X_reg ?_
            refine XR_a (op_move rfl) rfl rfl ?_
            refine XR_a (op_assign rfl) rfl rfl ?_
            refine XR_a (op_assign rfl) rfl rfl ?_
            refine XR_a (op_assign rfl) rfl rfl ?_
            refine XR_nil ?_
            refine X_ret (.cons (.tmp rfl) (.cons (.tmp rfl) (.cons (.tmp rfl) .nil))) ?_
            rw [if_pos (by omega)] at hM
            subst hM
            exact ⟨_, _, _, rfl, (St.reF [_, _, _, _] 4 st [3, 1, 0, 2] (by decide)).tail, fun h => by cases h⟩
          · rw [if_neg (by omega)] at hM
            refine X_seq ?_
            refine X_reg ?_
            refine XR_a (op_move rfl) rfl rfl ?_
            refine XR_a (op_len rfl rfl rfl) rfl rfl ?_
            refine XR_a (op_move rfl) rfl rfl ?_
            refine XR_a (op_nilCheck rfl) rfl rfl ?_
            first | refine XR_a (op_field0 rfl rfl) rfl rfl ?_ | refine XR_a (op_fieldn rfl rfl) rfl rfl ?_
            refine XR_a (op_ld (st.cell 2 (i := 1) rfl rfl) rfl rfl rfl) rfl rfl ?_
            refine XR_a (op_lss rfl rfl) rfl rfl ?_
            refine XR_a (op_assign rfl) rfl rfl ?_
            refine XR_nil ?_
            refine X_if rfl (fun h => ?_) (fun h => ?_)
            · refine X_seq ?_
              refine X_reg ?_
              refine XR_a (op_move rfl) rfl rfl ?_
              refine XR_a (op_assign rfl) rfl rfl ?_
              refine XR_a (op_assign rfl) rfl rfl ?_
              refine XR_a (op_assign rfl) rfl rfl ?_
              refine XR_nil ?_
              refine X_ret (.cons (.tmp rfl) (.cons (.tmp rfl) (.cons (.tmp rfl) .nil))) ?_
              rw [if_pos (by omega)] at hM
              subst hM
              exact ⟨_, _, _, rfl, (St.reF [_, _, _, _] 4 st [3, 1, 0, 2] (by decide)).tail, fun h => by cases h⟩
            · refine X_skip ?_
              refine X_blk ?_
              refine X_seq ?_
              refine X_reg ?_
              refine XR_a (op_move rfl) rfl rfl ?_
              refine XR_a (op_assign rfl) rfl rfl ?_
              refine XR_a (op_assign rfl) rfl rfl ?_
              refine XR_a (op_assign rfl) rfl rfl ?_
              refine XR_nil ?_
              refine X_ret (.cons (.tmp rfl) (.cons (.tmp rfl) (.cons (.tmp rfl) .nil))) ?_
              rw [if_neg (by omega)] at hM
              subst hM
              exact ⟨_, _, _, rfl, (St.reF [_, _, _, _] 4 st [3, 1, 0, 2] (by decide)).tail, fun h => by cases h⟩
    · refine XR_a (op_nilCheck rfl) rfl rfl ?_
      first | refine XR_a (op_field0 rfl rfl) rfl rfl ?_ | refine XR_a (op_fieldn rfl rfl) rfl rfl ?_
      refine XR_a (op_ld (st.cell 2 (i := 0) rfl rfl) rfl rfl rfl) rfl rfl ?_
      refine XR_a (op_move rfl) rfl rfl ?_
      refine XR_wa (opl_call (fbytes_long (n := n) st.here (by omega) (by omega) (by omega)) rfl (by kernel_rfl)) rfl rfl rfl ?_
      rintro _ hp ⟨rfl, st2⟩
      replace st := st.trans st2
      clear st2
      rw [if_pos (by omega)] at hM
      refine XR_a (op_assign rfl) rfl rfl ?_
      refine XR_nil ?_
      refine X_seq ?_
      refine X_block ?_
      refine X_seq ?_
      refine X_reg ?_
      refine XR_a (op_move rfl) rfl rfl ?_
      refine XR_a (op_nilCheck rfl) rfl rfl ?_
      first | refine XR_a (op_field0 rfl rfl) rfl rfl ?_ | refine XR_a (op_fieldn rfl rfl) rfl rfl ?_
      refine XR_a (op_ld (st.cell 2 (i := 0) rfl rfl) rfl rfl rfl) rfl rfl ?_
      refine XR_wa (opl_call (fok_spec (st.cell 0 rfl rfl)) rfl (by kernel_rfl)) rfl rfl rfl ?_
      rintro _ _ ⟨rfl, rfl⟩
      refine XR_a (op_not rfl) rfl rfl ?_
      refine XR_a (op_assign rfl) rfl rfl ?_
      refine XR_nil ?_
      refine X_then rfl ?_
      refine X_seq ?_
      refine X_reg ?_
      refine XR_a (op_move rfl) rfl rfl ?_
      refine XR_a (op_assign rfl) rfl rfl ?_
      refine XR_a (op_assign rfl) rfl rfl ?_
      refine XR_a (op_assign rfl) rfl rfl ?_
      refine XR_nil ?_
      refine X_ret (.cons (.tmp rfl) (.cons (.tmp rfl) (.cons (.tmp rfl) .nil))) ?_
      subst hM
      exact ⟨_, true, _, rfl, St.reF [_, _, _] 3 st [1, 0, 2] (by decide), fun h => by cases h⟩
  · refine XR_a (op_nilCheck rfl) rfl rfl ?_
    first | refine XR_a (op_field0 rfl rfl) rfl rfl ?_ | refine XR_a (op_fieldn rfl rfl) rfl rfl ?_
    refine XR_a (op_ld (st.cell 2 (i := 0) rfl rfl) rfl rfl rfl) rfl rfl ?_
    refine XR_wa (opl_call (fnum_fail st.here (hrB _ st.low) hl (by omega) ha (getF_short (by rw [wid2, hl]; omega))) rfl (by kernel_rfl)) rfl rfl rfl ?_
    rintro _ hp ⟨rfl, st2⟩
    replace st := st.trans st2
    clear st2
    rw [if_pos (by omega)] at hM
    refine XR_a (op_convI (k' := .i64) rfl rfl (by simp only [inK]; omega)) rfl rfl ?_
    refine XR_a (op_assign rfl) rfl rfl ?_
    refine XR_nil ?_
    refine X_seq ?_
    refine X_reg ?_
    refine XR_a (op_move rfl) rfl rfl ?_
    refine XR_a (op_nilCheck rfl) rfl rfl ?_
    first | refine XR_a (op_field0 rfl rfl) rfl rfl ?_ | refine XR_a (op_fieldn rfl rfl) rfl rfl ?_
    refine XR_a (op_ld (st.cell 2 (i := 0) rfl rfl) rfl rfl rfl) rfl rfl ?_
    refine XR_a (op_move rfl) rfl rfl ?_
    refine XR_wa (opl_call (fbytes_bad (st.cell 0 rfl rfl)) rfl (by kernel_rfl)) rfl rfl rfl ?_
    rintro _ _ ⟨rfl, rfl⟩
    refine XR_a (op_assign rfl) rfl rfl ?_
    refine XR_nil ?_
    refine X_seq ?_
    refine X_block ?_
    refine X_seq ?_
    refine X_reg ?_
    refine XR_a (op_move rfl) rfl rfl ?_
    refine XR_a (op_nilCheck rfl) rfl rfl ?_
    first | refine XR_a (op_field0 rfl rfl) rfl rfl ?_ | refine XR_a (op_fieldn rfl rfl) rfl rfl ?_
    refine XR_a (op_ld (st.cell 2 (i := 0) rfl rfl) rfl rfl rfl) rfl rfl ?_
    refine XR_wa (opl_call (fok_spec (st.cell 0 rfl rfl)) rfl (by kernel_rfl)) rfl rfl rfl ?_
    rintro _ _ ⟨rfl, rfl⟩
    refine XR_a (op_not rfl) rfl rfl ?_
    refine XR_a (op_assign rfl) rfl rfl ?_
    refine XR_nil ?_
    refine X_then rfl ?_
    refine X_seq ?_
    refine X_reg ?_
    refine XR_a (op_move rfl) rfl rfl ?_
    refine XR_a (op_assign rfl) rfl rfl ?_
    refine XR_a (op_assign rfl) rfl rfl ?_
    refine XR_a (op_assign rfl) rfl rfl ?_
    refine XR_nil ?_
    refine X_ret (.cons (.tmp rfl) (.cons (.tmp rfl) (.cons (.tmp rfl) .nil))) ?_
    subst hM
    exact ⟨_, true, _, rfl, St.reF [_, _, _] 3 st [1, 0, 2] (by decide), fun h => by cases h⟩
theorem amore_spec {B ps m c : Nat} {A : Option Addr} {l : List UInt8} {v : Value} {F : List Res} {h0 : Heap} (st0 : St B h0 h0 (row 5 1 v (([] : List UInt8).map byteV) :: pt ps 83 [.slice A m c] :: F))
    (hrB : ∀ h', Low B h0 h' → Rd h' A (l.map byteV)) (hl : l.length = m) (hm : m ≤ 1073741824) :
    Ret Try.prog 208 [.pointer (some ⟨ps, 0, none⟩), v] h0
      fun u h' => ∃ v', u = retVal [v', .bool true, nV 0] ∧ St B h0 h' (row 5 1 v' (l.map byteV) :: pt ps 83 [.slice A m c] :: F) := by
  refine ret_of_X Try.func208 rfl rfl fun w0 hw0 => ?_
  simp only [argE, Nat.zero_add, Nat.reduceAdd]
  have st := st0
  refine X_seq ?_
  refine X_reg ?_
  refine XR_a (op_assign rfl) rfl rfl ?_
  refine XR_a (op_assign rfl) rfl rfl ?_
  refine XR_a (op_assign rfl) rfl rfl ?_
  refine XR_nil ?_
  refine X_seq ?_
  refine X_reg ?_
  refine XR_a (op_move rfl) rfl rfl ?_
  refine XR_a (op_move rfl) rfl rfl ?_
  refine XR_a (op_nilCheck rfl) rfl rfl ?_
  first | refine XR_a (op_field0 rfl rfl) rfl rfl ?_ | refine XR_a (op_fieldn rfl rfl) rfl rfl ?_
  refine XR_a (op_ld (st.cell 1 (i := 0) rfl rfl) rfl rfl rfl) rfl rfl ?_
  refine XR_wa (opl_append st 0 rfl (hrB _ st.low) (by simp; omega) (one_bytes _) (by simp; omega) rfl rfl rfl rfl rfl rfl rfl) rfl rfl rfl fun v hp st => ?_
  simp only [List.set_cons_zero, List.set_cons_succ] at st
  refine XR_a (op_assign rfl) rfl rfl ?_
  refine XR_a (op_assign rfl) rfl rfl ?_
  refine XR_a (op_assign rfl) rfl rfl ?_
  refine XR_nil ?_
  refine X_ret (.cons (.tmp rfl) (.cons (.tmp rfl) (.cons (.tmp rfl) .nil))) ?_
  rw [List.map_nil, List.nil_append] at st
  exact ⟨_, rfl, st⟩
theorem meth_stored (ps : Nat) (w : World) : (method (Try.prog.types.size + Made.depth) 81 (.pointer (some ⟨ps, 0, none⟩)) "bindle/reader.more").run Try.prog w = .ok (208, .pointer (some ⟨ps, 0, none⟩)) w := by kernel_rfl
theorem meth_pieces (ps : Nat) (w : World) : (method (Try.prog.types.size + Made.depth) 88 (.pointer (some ⟨ps, 0, none⟩)) "bindle/reader.more").run Try.prog w = .ok (209, .pointer (some ⟨ps, 0, none⟩)) w := by kernel_rfl
theorem meth_packed (ps : Nat) (w : World) : (method (Try.prog.types.size + Made.depth) 93 (.pointer (some ⟨ps, 0, none⟩)) "bindle/reader.more").run Try.prog w = .ok (212, .pointer (some ⟨ps, 0, none⟩)) w := by kernel_rfl
end Go.Bn
end

section
set_option linter.unusedVariables false
set_option linter.unusedSimpArgs false
namespace Go.Bn
open Go
section
variable {c : Cx} {k : List SItem} {E : Env} {hp : Heap}
end
section
variable {cl : Cls} {P : Program} {E : Env} {hp : Heap} {d : Option Tmp} {ty : TypeId} {pos : String} {af : Array Edge} {g : Option (Nat × Bool)}
def concrete (P : Program) (t : TypeId) : Bool := match P.underlying t with
  | some (.interface _) => false
  | some _ => true
  | none => false
theorem op_iface {x : Operand} {t : TypeId} {v : Value} (hx : ev E x = some v) (hf : concrete P t = true) : Op1 cl P ⟨d, .makeInterface t x, ty, pos, af, g⟩ E hp (.iface t v) := by
  refine Op1.of_pure fun n a ho w => ?_
  simp only [execOp, ho.eval hx]
  unfold concrete at hf
  cases hu : P.underlying t with
  | none => rw [hu] at hf; cases hf
  | some u =>
    rw [hu] at hf
    cases u <;> first
      | (cases hf; done)
      | simp [Instr.makeInterface, run_underlying hu, go_sem]
end
section
variable {P : Program} {E : Env} {hp : Heap} {d : Option Tmp} {ty : TypeId} {pos : String} {af : Array Edge} {g : Option (Nat × Bool)}
end
section
variable {c : Cx} {k : List SItem} {E : Env} {hp : Heap} {ops : Array Oper} {cs : CF}
end
end Go.Bn
end

section
set_option linter.unusedVariables false
set_option linter.unusedSimpArgs false
set_option maxHeartbeats 4000000
set_option maxRecDepth 20000
namespace Go.Bn
open Go Proofs
noncomputable def souA (B : Nat) (hb : Heap) (ps m c : Nat) (A : Option Addr) (l : List UInt8) (hr : ∀ h', Low B hb h' → Rd h' A (l.map byteV)) (hl : l.length = m) (hm : m ≤ 65536) : Sou B where
  hb := hb
  T := 81
  rv := .pointer (some ⟨ps, 0, none⟩)
  f := 208
  SR := fun _ => pt ps 83 [.slice A m c]
  mv := mvA l
  I := fun _ out => out = []
  lim := l.length
  ok := mvA_ok l
  hlim := by omega
  hm := meth_stored ps
  hc := by kernel_rfl
  more := by
    intro h0 v a out F hlow hI st
    subst hI
    refine (amore_spec st (fun h' hh => hr h' (hlow.trans hh)) hl (by omega)).mono ?_
    rintro u h' ⟨v', rfl, st2⟩
    exact ⟨v', rfl, fun _ => (St.reF [_, _] 2 st2 [1, 0] (by decide)).tail, fun h => by cases h⟩
noncomputable def souS (B : Nat) (hb : Heap) (ps pf m c size : Nat) (A : Option Addr) (l : List UInt8) (hr : ∀ h', Low B hb h' → Rd h' A (l.map byteV)) (hl : l.length = m) (hm : m ≤ 1073741824) (hmc : m ≤ c) (hs : size ≤ 1048576) : Sou B where
  hb := hb
  T := 88
  rv := .pointer (some ⟨ps, 0, none⟩)
  f := 209
  SR := fun a => starR (fdG pf A m c a false) (pcG ps pf size)
  mv := mvS l size
  I := fun a out => a ≤ l.length ∧ out.length ≤ size
  lim := size
  ok := mvS_ok
  hlim := hs
  hm := meth_pieces ps
  hc := by kernel_rfl
  more := by
    intro h0 v a out F hlow hI st
    have st1 := St.reF [_, _] 2 st [1, 0] (by decide)
    have st2 := St.reF [_, _, _] 3 (St.star.1 st1) [2, 0, 1] (by decide)
    refine (smore_spec st2 (fun h' hh => hr h' (hlow.trans hh)) hl hm hmc (by omega) hs hI.2).mono ?_
    rintro u h' ⟨v', bad, a', rfl, st3, hov⟩
    refine ⟨v', rfl, fun _ => (St.reF [_, _, _] 3 st3 [1, 2, 0] (by decide)).tail.tail, fun h => ?_⟩
    obtain ⟨rfl, rfl⟩ := hov h
    exact (St.star.2 (St.reF [_, _, _] 3 st3 [1, 2, 0] (by decide))).perm (List.Perm.swap _ _ _)
noncomputable def souP (B : Nat) (hb : Heap) (pk q t1 t2 m c size : Nat) (A : Option Addr) (l : List UInt8) (la lb : List Nat) (oka : lensOK la) (okb : lensOK lb) (na : la.length = 273) (nb : lb.length = 30) (hr : ∀ h', Low B hb h' → Rd h' A (l.map byteV)) (hl : l.length = m) (hm : m ≤ 1073741824) (hs : size ≤ 1048576) : Sou B where
  hb := hb
  T := 93
  rv := .pointer (some ⟨pk, 0, none⟩)
  f := 212
  SR := fun a => starR (rdG q A m c a) (starR (tabR t1 (qcodes la) 9) (starR (tabR t2 (qcodes lb) 9) (pkG pk q t1 t2 size)))
  mv := mvP la lb (bitsB l) size
  I := fun a out => a ≤ (bitsB l).length ∧ out.length ≤ size
  lim := size
  ok := mvP_ok oka okb
  hlim := hs
  hm := meth_packed pk
  hc := by kernel_rfl
  more := by
    intro h0 v a out F hlow hI st
    have hbl := bitsB_length l
    have st1 := St.star.1 (St.reF [_, _] 2 st [1, 0] (by decide))
    have st2 := St.star.1 (St.reF [_, _, _] 3 st1 [1, 0, 2] (by decide))
    have st3 := St.star.1 (St.reF [_, _, _, _] 4 st2 [1, 0, 2, 3] (by decide))
    have st4 := St.reF [_, _, _, _, _] 5 st3 [4, 3, 2, 0, 1] (by decide)
    refine (pmore_spec st4 oka okb na nb (fun h' hh => hr h' (hlow.trans hh)) hl hm (by have := hI.1; omega) hs hI.2).mono ?_
    rintro u h' ⟨v', rfl, st5⟩
    refine ⟨v', rfl, fun _ => (St.reF [_, _, _, _, _] 5 st5 [1, 2, 3, 4, 0] (by decide)).tail.tail.tail.tail, fun h => ?_⟩
    have g1 := St.star.2 (St.reF [_, _, _, _, _] 5 st5 [3, 4, 0, 1, 2] (by decide))
    have g2 := St.star.2 (St.reF [_, _, _, _] 4 g1 [3, 0, 1, 2] (by decide))
    have g3 := St.star.2 (St.reF [_, _, _] 3 g2 [2, 0, 1] (by decide))
    exact g3.perm (List.Perm.swap _ _ _)
theorem castI_iV (z : List Nat) : z.map nV = (castI z).map iV := by unfold castI; rw [List.map_map]; rfl
theorem unpack_spec {B m c size : Nat} {A : Option Addr} {l : List UInt8} {F : List Res} {h0 : Heap} (st0 : St B h0 h0 F) (hrB : ∀ h', Low B h0 h' → Rd h' A (l.map byteV)) (hl : l.length = m) (hm : m ≤ 1073741824) :
    Ret Try.prog 48 [.slice A m c, nV size] h0 fun v h' => ∃ w, v = retVal [w, nV (codesT (bitsB l) 0).1] ∧ ((codesT (bitsB l) 0).1 ≠ 0 → w = .pointer none ∧ St B h0 h' F) ∧
      ((codesT (bitsB l) 0).1 = 0 → (codesT (bitsB l) 0).2.2.2 ≤ 8 * m ∧ ∃ pk q t1 t2, w = .pointer (some ⟨pk, 0, none⟩) ∧ St B h0 h' (rdG q A m c (codesT (bitsB l) 0).2.2.2 :: tabR t1 (qcodes (codesT (bitsB l) 0).2.1) 9 :: tabR t2 (qcodes (codesT (bitsB l) 0).2.2.1) 9 :: pkG pk q t1 t2 size :: F)) := by
  obtain ⟨N, hN⟩ : ∃ N, codesT (bitsB l) 0 = N := ⟨_, rfl⟩
  rw [hN]
  unfold codesT at hN
  obtain ⟨X, hX⟩ : ∃ X, takeR (bitsB l) 0 (okR (bitsB l) 0) = X := ⟨_, rfl⟩
  rw [hX] at hN
  obtain ⟨Y, hY⟩ : ∃ Y, takeR (bitsB l) X.2.1 (okR (bitsB l) X.2.1) = Y := ⟨_, rfl⟩
  rw [hY] at hN
  have w9 : widthN 9 = 9 := rfl
  refine ret_of_X Try.func48 rfl rfl fun w0 hw0 => ?_
  simp only [argE, Nat.zero_add, Nat.reduceAdd]
  refine X_seq ?_
  refine X_reg ?_
  refine XR_a (op_assign rfl) rfl rfl ?_
  refine XR_a (op_assign rfl) rfl rfl ?_
  refine XR_nil ?_
  refine X_seq ?_
  refine X_reg ?_
  refine XR_a (op_move rfl) rfl rfl ?_
  refine XR_wa (opl_call (rnew_spec) rfl (by kernel_rfl)) rfl rfl rfl ?_
  rintro _ hp ⟨q, rfl, st1⟩
  have st := st0.join st1
  simp only [List.cons_append, List.nil_append] at st
  clear st1
  refine XR_a (op_move rfl) rfl rfl ?_
  refine XR_a (op_build (ps := [(0, .pointer (some ⟨q, 0, none⟩)), (3, nV size)]) (cs := #[.pointer (some ⟨q, 0, none⟩), .pointer none, .pointer none, nV size]) rfl rfl) rfl rfl ?_
  refine XR_wa (opl_bx (cs := [.pointer (some ⟨q, 0, none⟩), .pointer none, .pointer none, nV size]) rfl rfl) rfl rfl rfl ?_
  rintro _ hp ⟨pk, rfl, hnew⟩
  replace st := (st.new hnew).perm (List.Perm.swap _ _ _)
  refine XR_a (op_assign rfl) rfl rfl ?_
  refine XR_nil ?_
  refine X_seq ?_
  refine X_reg ?_
  refine XR_a (op_move rfl) rfl rfl ?_
  refine XR_a (op_nilCheck rfl) rfl rfl ?_
  first | refine XR_a (op_field0 rfl rfl) rfl rfl ?_ | refine XR_a (op_fieldn rfl rfl) rfl rfl ?_
  refine XR_a (op_ld (st.cell 1 (i := 0) rfl rfl) rfl rfl rfl) rfl rfl ?_
  refine XR_wa (opl_call (rtake_runs st.here (fun h' hh => hrB h' (st.low.trans hh)) hl hm (by omega)) rfl (by kernel_rfl)) rfl rfl rfl ?_
  rintro _ hp1 ⟨w1, a1, rfl, ha1, hat, st2⟩
  rw [hX] at hat st2 ⊢
  replace st := st.trans st2
  clear st2
  obtain ⟨A1, n1, c1, rfl, hl1, _⟩ := st.row 0 rfl
  rw [List.length_map, Nat.mul_one] at hl1
  refine XR_a (op_move rfl) rfl rfl ?_
  refine XR_a (op_extract rfl rfl) rfl rfl ?_
  refine XR_a (op_extract rfl rfl) rfl rfl ?_
  refine XR_a (op_assign rfl) rfl rfl ?_
  refine XR_a (op_assign rfl) rfl rfl ?_
  refine XR_nil ?_
  refine X_seq ?_
  refine X_seq ?_
  refine X_reg ?_
  refine XR_a (op_move rfl) rfl rfl ?_
  refine XR_a (op_neq rfl rfl) rfl rfl ?_
  refine XR_nil ?_
  refine X_if rfl (fun h => ?_) (fun h => ?_)
  · rw [if_pos (by omega)] at hN
    subst hN
    refine X_seq ?_
    refine X_reg ?_
    refine XR_a (op_move rfl) rfl rfl ?_
    refine XR_a (op_assign rfl) rfl rfl ?_
    refine XR_a (op_assign rfl) rfl rfl ?_
    refine XR_nil ?_
    refine X_ret (.cons (.tmp rfl) (.cons (.tmp rfl) .nil)) ?_
    exact ⟨_, rfl, fun _ => ⟨rfl, st.tail.tail.tail⟩, fun h9 => absurd h9 (by simp only; omega)⟩
  · rw [if_neg (by omega)] at hN
    obtain rfl := hat (by omega)
    replace st := St.reF [_, _, _] 3 st [1, 0, 2] (by decide)
    simp only [List.map_cons, List.map_nil, getR, List.cons_append, List.nil_append] at st
    refine X_skip ?_
    refine X_seq ?_
    refine X_reg ?_
    refine XR_a (op_move rfl) rfl rfl ?_
    refine XR_a (op_nilCheck rfl) rfl rfl ?_
    first | refine XR_a (op_field0 rfl rfl) rfl rfl ?_ | refine XR_a (op_fieldn rfl rfl) rfl rfl ?_
    refine XR_a (op_ld (st.cell 2 (i := 0) rfl rfl) rfl rfl rfl) rfl rfl ?_
    refine XR_wa (opl_call (rtake_runs st.here (fun h' hh => hrB h' (st.low.trans hh)) hl hm ha1) rfl (by kernel_rfl)) rfl rfl rfl ?_
    rintro _ hp2 ⟨w2, a2, rfl, ha2, hat2, st2⟩
    rw [hY] at hat2 st2 ⊢
    replace st := st.trans st2
    clear st2
    obtain ⟨A2, n2, c2, rfl, hl2, _⟩ := st.row 0 rfl
    rw [List.length_map, Nat.mul_one] at hl2
    refine XR_a (op_move rfl) rfl rfl ?_
    refine XR_a (op_extract rfl rfl) rfl rfl ?_
    refine XR_a (op_extract rfl rfl) rfl rfl ?_
    refine XR_a (op_assign rfl) rfl rfl ?_
    refine XR_a (op_assign rfl) rfl rfl ?_
    refine XR_nil ?_
    refine X_seq ?_
    refine X_block ?_
    refine X_seq ?_
    refine X_reg ?_
    refine XR_a (op_move rfl) rfl rfl ?_
    refine XR_a (op_neq rfl rfl) rfl rfl ?_
    refine XR_a (op_assign rfl) rfl rfl ?_
    refine XR_nil ?_
    refine X_if rfl (fun h => ?_) (fun h => ?_)
    · rw [if_pos (by omega)] at hN
      subst hN
      refine X_seq ?_
      refine X_reg ?_
      refine XR_a (op_move rfl) rfl rfl ?_
      refine XR_a (op_assign rfl) rfl rfl ?_
      refine XR_a (op_assign rfl) rfl rfl ?_
      refine XR_nil ?_
      refine X_ret (.cons (.tmp rfl) (.cons (.tmp rfl) .nil)) ?_
      exact ⟨_, rfl, fun _ => ⟨rfl, st.tail.tail.tail.tail⟩, fun h9 => absurd h9 (by simp only; omega)⟩
    · rw [if_neg (by omega)] at hN
      obtain rfl := hat2 (by omega)
      refine X_seq ?_
      refine X_reg ?_
      refine XR_a (op_move rfl) rfl rfl ?_
      refine XR_a (op_len rfl rfl rfl) rfl rfl ?_
      refine XR_a (op_neq rfl rfl) rfl rfl ?_
      refine XR_a (op_move rfl) rfl rfl ?_
      refine XR_if 42 rfl (fun h => ?_) (fun h => ?_)
      · rw [if_pos (by omega)] at hN
        subst hN
        refine XR_no rfl rfl ?_
        refine XR_no rfl rfl ?_
        refine XR_no rfl rfl ?_
        refine XR_a (op_pick_t rfl rfl) rfl rfl ?_
        refine XR_a (op_assign rfl) rfl rfl ?_
        refine XR_nil ?_
        refine X_then rfl ?_
        refine X_seq ?_
        refine X_reg ?_
        refine XR_a (op_assign rfl) rfl rfl ?_
        refine XR_a (op_assign rfl) rfl rfl ?_
        refine XR_nil ?_
        refine X_ret (.cons (.tmp rfl) (.cons (.tmp rfl) .nil)) ?_
        exact ⟨_, rfl, fun _ => ⟨rfl, st.tail.tail.tail.tail⟩, fun h9 => absurd h9 (by decide)⟩
      · refine XR_a (op_move rfl) rfl rfl ?_
        refine XR_a (op_len rfl rfl rfl) rfl rfl ?_
        refine XR_a (op_neq rfl rfl) rfl rfl ?_
        refine XR_a (op_pick_f rfl rfl) rfl rfl ?_
        refine XR_a (op_assign rfl) rfl rfl ?_
        refine XR_nil ?_
        refine X_if rfl (fun h => ?_) (fun h => ?_)
        · rw [if_pos (by omega)] at hN
          subst hN
          refine X_seq ?_
          refine X_reg ?_
          refine XR_a (op_assign rfl) rfl rfl ?_
          refine XR_a (op_assign rfl) rfl rfl ?_
          refine XR_nil ?_
          refine X_ret (.cons (.tmp rfl) (.cons (.tmp rfl) .nil)) ?_
          exact ⟨_, rfl, fun _ => ⟨rfl, st.tail.tail.tail.tail⟩, fun h9 => absurd h9 (by decide)⟩
        · rw [if_neg (by omega)] at hN
          refine X_skip ?_
          refine X_blk ?_
          refine X_seq ?_
          refine X_seq ?_
          refine X_reg ?_
          refine XR_a (op_move rfl) rfl rfl ?_
          refine XR_a (op_move rfl) rfl rfl ?_
          refine XR_wa (opl_call (qnew_spec (li := castI X.1) 9 (by rw [← castI_iV]; exact (st.rdS 2 rfl).2) (by unfold castI; rw [List.length_map]; exact hl1) (by omega)) rfl (by kernel_rfl)) rfl rfl rfl ?_
          rintro _ hp3 ⟨w3, rfl, hx3, hy3, hz3⟩
          rw [castI_toNat] at hy3
          refine XR_a (op_move rfl) rfl rfl ?_
          by_cases hR1 : rightC (castI X.1)
          · obtain ⟨t1, rfl, st3⟩ := hy3 hR1
            rw [w9] at st3
            replace st := st.join st3
            simp only [List.cons_append, List.nil_append] at st
            replace st := St.reF [_, _, _, _, _] 5 st [4, 0, 1, 2, 3] (by decide)
            simp only [List.map_cons, List.map_nil, getR, List.cons_append, List.nil_append] at st
            rw [show errC (castI X.1) = 0 by unfold errC; rw [if_pos hR1]]
            refine XR_a (op_extract rfl rfl) rfl rfl ?_
            refine XR_a (op_extract rfl rfl) rfl rfl ?_
            refine XR_a (op_nilCheck rfl) rfl rfl ?_
            first | refine XR_a (op_field0 rfl rfl) rfl rfl ?_ | refine XR_a (op_fieldn rfl rfl) rfl rfl ?_
            refine XR_wn (opl_store_pt st 0 rfl rfl rfl rfl rfl (rfl)) rfl rfl fun _ hp st => ?_
            simp only [List.set_cons_zero, List.set_cons_succ] at st
            refine XR_a (op_assign rfl) rfl rfl ?_
            refine XR_nil ?_
            refine X_seq ?_
            refine X_reg ?_
            refine XR_a (op_move rfl) rfl rfl ?_
            refine XR_a (op_neq rfl rfl) rfl rfl ?_
            refine XR_as (.bool false) (congrArg Value.bool (decide_eq_false (by simp))) ?_
            refine XR_nil ?_
            refine X_else rfl ?_
            refine X_skip ?_
            refine X_seq ?_
            refine X_seq ?_
            refine X_reg ?_
            refine XR_a (op_move rfl) rfl rfl ?_
            refine XR_a (op_move rfl) rfl rfl ?_
            refine XR_wa (opl_call (qnew_spec (li := castI Y.1) 9 (by rw [← castI_iV]; exact (st.rdS 2 rfl).2) (by unfold castI; rw [List.length_map]; exact hl2) (by omega)) rfl (by kernel_rfl)) rfl rfl rfl ?_
            rintro _ hp4 ⟨w4, rfl, hx4, hy4, hz4⟩
            rw [castI_toNat] at hy4
            refine XR_a (op_move rfl) rfl rfl ?_
            by_cases hR2 : rightC (castI Y.1)
            · obtain ⟨t2, rfl, st4⟩ := hy4 hR2
              rw [w9] at st4
              replace st := st.join st4
              simp only [List.cons_append, List.nil_append] at st
              replace st := St.reF [_, _, _, _, _, _] 6 st [1, 0, 2, 3, 4, 5] (by decide)
              simp only [List.map_cons, List.map_nil, getR, List.cons_append, List.nil_append] at st
              rw [show errC (castI Y.1) = 0 by unfold errC; rw [if_pos hR2]]
              rw [if_neg (by rintro (h | h) <;> exact h (by assumption))] at hN
              subst hN
              refine XR_a (op_extract rfl rfl) rfl rfl ?_
              refine XR_a (op_extract rfl rfl) rfl rfl ?_
              refine XR_a (op_nilCheck rfl) rfl rfl ?_
              first | refine XR_a (op_field0 rfl rfl) rfl rfl ?_ | refine XR_a (op_fieldn rfl rfl) rfl rfl ?_
              refine XR_wn (opl_store_pt st 0 rfl rfl rfl rfl rfl (rfl)) rfl rfl fun _ hp st => ?_
              simp only [List.set_cons_zero, List.set_cons_succ] at st
              refine XR_a (op_assign rfl) rfl rfl ?_
              refine XR_nil ?_
              refine X_seq ?_
              refine X_reg ?_
              refine XR_a (op_move rfl) rfl rfl ?_
              refine XR_a (op_neq rfl rfl) rfl rfl ?_
              refine XR_as (.bool false) (congrArg Value.bool (decide_eq_false (by simp))) ?_
              refine XR_nil ?_
              refine X_else rfl ?_
              refine X_skip ?_
              refine X_seq ?_
              refine X_reg ?_
              refine XR_a (op_move rfl) rfl rfl ?_
              refine XR_a (op_assign rfl) rfl rfl ?_
              refine XR_a (op_assign rfl) rfl rfl ?_
              refine XR_nil ?_
              refine X_ret (.cons (.tmp rfl) (.cons (.tmp rfl) .nil)) ?_
              refine ⟨_, rfl, fun h9 => absurd rfl h9, fun _ => ⟨ha2, pk, q, t1, t2, rfl, ?_⟩⟩
              exact (St.reF [_, _, _, _, _, _] 6 st [3, 5, 4, 2, 1, 0] (by decide)).tail.tail
            · obtain rfl := hz4 hR2
              replace st := st.ext hx4
              rw [show errC (castI Y.1) = 13 by unfold errC; rw [if_neg hR2]]
              rw [if_pos (.inr hR2)] at hN
              subst hN
              refine XR_a (op_extract rfl rfl) rfl rfl ?_
              refine XR_a (op_extract rfl rfl) rfl rfl ?_
              refine XR_a (op_nilCheck rfl) rfl rfl ?_
              first | refine XR_a (op_field0 rfl rfl) rfl rfl ?_ | refine XR_a (op_fieldn rfl rfl) rfl rfl ?_
              refine XR_wn (opl_store_pt st 0 rfl rfl rfl rfl rfl (rfl)) rfl rfl fun _ hp st => ?_
              simp only [List.set_cons_zero, List.set_cons_succ] at st
              refine XR_a (op_assign rfl) rfl rfl ?_
              refine XR_nil ?_
              refine X_seq ?_
              refine X_reg ?_
              refine XR_a (op_move rfl) rfl rfl ?_
              refine XR_a (op_neq rfl rfl) rfl rfl ?_
              refine XR_as (.bool true) (congrArg Value.bool (decide_eq_true (by simp))) ?_
              refine XR_nil ?_
              refine X_then rfl ?_
              refine X_seq ?_
              refine X_reg ?_
              refine XR_a (op_move rfl) rfl rfl ?_
              refine XR_a (op_assign rfl) rfl rfl ?_
              refine XR_a (op_assign rfl) rfl rfl ?_
              refine XR_nil ?_
              refine X_ret (.cons (.tmp rfl) (.cons (.tmp rfl) .nil)) ?_
              exact ⟨_, rfl, fun _ => ⟨rfl, st.tail.tail.tail.tail.tail⟩, fun h9 => absurd h9 (by decide)⟩
          · obtain rfl := hz3 hR1
            replace st := st.ext hx3
            replace st := St.reF [_, _, _, _] 4 st [3, 0, 1, 2] (by decide)
            simp only [List.map_cons, List.map_nil, getR, List.cons_append, List.nil_append] at st
            rw [show errC (castI X.1) = 13 by unfold errC; rw [if_neg hR1]]
            rw [if_pos (.inl hR1)] at hN
            subst hN
            refine XR_a (op_extract rfl rfl) rfl rfl ?_
            refine XR_a (op_extract rfl rfl) rfl rfl ?_
            refine XR_a (op_nilCheck rfl) rfl rfl ?_
            first | refine XR_a (op_field0 rfl rfl) rfl rfl ?_ | refine XR_a (op_fieldn rfl rfl) rfl rfl ?_
            refine XR_wn (opl_store_pt st 0 rfl rfl rfl rfl rfl (rfl)) rfl rfl fun _ hp st => ?_
            simp only [List.set_cons_zero, List.set_cons_succ] at st
            refine XR_a (op_assign rfl) rfl rfl ?_
            refine XR_nil ?_
            refine X_seq ?_
            refine X_reg ?_
            refine XR_a (op_move rfl) rfl rfl ?_
            refine XR_a (op_neq rfl rfl) rfl rfl ?_
            refine XR_as (.bool true) (congrArg Value.bool (decide_eq_true (by simp))) ?_
            refine XR_nil ?_
            refine X_then rfl ?_
            refine X_seq ?_
            refine X_reg ?_
            refine XR_a (op_move rfl) rfl rfl ?_
            refine XR_a (op_assign rfl) rfl rfl ?_
            refine XR_a (op_assign rfl) rfl rfl ?_
            refine XR_nil ?_
            refine X_ret (.cons (.tmp rfl) (.cons (.tmp rfl) .nil)) ?_
            exact ⟨_, rfl, fun _ => ⟨rfl, st.tail.tail.tail.tail⟩, fun h9 => absurd h9 (by decide)⟩
noncomputable def newE (mt : Int) (l : List UInt8) (size : Int) : Nat := if mt < 0 ∨ 2 < mt then 1 else if size < 0 ∨ 65536 < size ∨ (mt = 0 ∧ (l.length : Int) ≠ size) then 5 else if mt = 0 ∨ mt = 2 then 0 else (codesT (bitsB l) 0).1
noncomputable def mvOf (mt : Int) (l : List UInt8) (size : Int) : Mv := if mt = 0 then mvA l else if mt = 2 then mvS l size.toNat else mvP (codesT (bitsB l) 0).2.1 (codesT (bitsB l) 0).2.2.1 (bitsB l) size.toNat
noncomputable def atOf (mt : Int) (l : List UInt8) : Nat := if mt = 0 ∨ mt = 2 then 0 else (codesT (bitsB l) 0).2.2.2
theorem rdnew_spec {B m c : Nat} {mt size : Int} {A : Option Addr} {l : List UInt8} {F : List Res} {h0 : Heap} (st0 : St B h0 h0 F) (hrB : ∀ h', Low B h0 h' → Rd h' A (l.map byteV)) (hl : l.length = m) (hm : m ≤ 1073741824) (hmc : m ≤ c) :
    Ret Try.prog 14 [.int .i64 mt, .slice A m c, .int .i64 size] h0 fun v h' => ∃ w, v = retVal [w, nV (newE mt l size)] ∧ (newE mt l size ≠ 0 → w = .pointer none ∧ St B h0 h' F) ∧
      (newE mt l size = 0 → ∃ pr, ∃ S : Sou B, w = .pointer (some ⟨pr, 0, none⟩) ∧ S.hb = h0 ∧ ∀ gB gE, Giv (mvOf mt l size) (atOf mt l) [] gB gE → St B h0 h' (rdrR S pr gB gE 0 :: F)) := by
  obtain ⟨N, hN⟩ : ∃ N, newE mt l size = N := ⟨_, rfl⟩
  rw [hN]
  unfold newE at hN
  refine ret_of_X Try.func14 rfl rfl fun w0 hw0 => ?_
  simp only [argE, Nat.zero_add, Nat.reduceAdd]
  have st := st0
  refine X_seq ?_
  refine X_reg ?_
  refine XR_a (op_assign rfl) rfl rfl ?_
  refine XR_a (op_assign rfl) rfl rfl ?_
  refine XR_nil ?_
  refine X_seq ?_
  refine X_block ?_
  refine X_seq ?_
  refine X_reg ?_
  refine XR_a (op_move rfl) rfl rfl ?_
  refine XR_a (op_lss rfl rfl) rfl rfl ?_
  refine XR_a (op_move rfl) rfl rfl ?_
  refine XR_if 13 rfl (fun h => ?_) (fun h => ?_)
  · rw [if_pos (by omega)] at hN
    refine XR_no rfl rfl ?_
    refine XR_no rfl rfl ?_
    refine XR_a (op_pick_t rfl rfl) rfl rfl ?_
    refine XR_a (op_assign rfl) rfl rfl ?_
    refine XR_nil ?_
    refine X_then rfl ?_
    refine X_seq ?_
    refine X_reg ?_
    refine XR_a (op_assign rfl) rfl rfl ?_
    refine XR_a (op_assign rfl) rfl rfl ?_
    refine XR_nil ?_
    refine X_ret (.cons (.tmp rfl) (.cons (.tmp rfl) .nil)) ?_
    subst hN
    exact ⟨_, rfl, fun _ => ⟨rfl, st⟩, fun h => absurd h (by decide)⟩
  · refine XR_a (op_move rfl) rfl rfl ?_
    refine XR_a (op_gtr rfl rfl) rfl rfl ?_
    refine XR_a (op_pick_f rfl rfl) rfl rfl ?_
    refine XR_a (op_assign rfl) rfl rfl ?_
    refine XR_nil ?_
    refine X_if rfl (fun h => ?_) (fun h => ?_)
    · rw [if_pos (by omega)] at hN
      refine X_seq ?_
      refine X_reg ?_
      refine XR_a (op_assign rfl) rfl rfl ?_
      refine XR_a (op_assign rfl) rfl rfl ?_
      refine XR_nil ?_
      refine X_ret (.cons (.tmp rfl) (.cons (.tmp rfl) .nil)) ?_
      subst hN
      exact ⟨_, rfl, fun _ => ⟨rfl, st⟩, fun h => absurd h (by decide)⟩
    · rw [if_neg (by omega)] at hN
      refine X_seq ?_
      refine X_reg ?_
      refine XR_a (op_move rfl) rfl rfl ?_
      refine XR_a (op_lss rfl rfl) rfl rfl ?_
      refine XR_a (op_move rfl) rfl rfl ?_
      refine XR_if 20 rfl (fun h => ?_) (fun h => ?_)
      · refine XR_no rfl rfl ?_
        refine XR_no rfl rfl ?_
        refine XR_a (op_pick_t rfl rfl) rfl rfl ?_
        refine XR_a (op_move rfl) rfl rfl ?_
        refine XR_no rfl rfl ?_
        refine XR_no rfl rfl ?_
        refine XR_no rfl rfl ?_
        refine XR_no rfl rfl ?_
        refine XR_no rfl rfl ?_
        refine XR_no rfl rfl ?_
        refine XR_no rfl rfl ?_
        refine XR_no rfl rfl ?_
        refine XR_a (op_pick_t rfl rfl) rfl rfl ?_
        refine XR_a (op_assign rfl) rfl rfl ?_
        refine XR_nil ?_
        refine X_then rfl ?_
        refine X_seq ?_
        refine X_reg ?_
        refine XR_a (op_assign rfl) rfl rfl ?_
        refine XR_a (op_assign rfl) rfl rfl ?_
        refine XR_nil ?_
        refine X_ret (.cons (.tmp rfl) (.cons (.tmp rfl) .nil)) ?_
        rw [if_pos (by omega)] at hN
        subst hN
        exact ⟨_, rfl, fun _ => ⟨rfl, st⟩, fun h => absurd h (by decide)⟩
      · refine XR_a (op_move rfl) rfl rfl ?_
        refine XR_a (op_gtr rfl rfl) rfl rfl ?_
        refine XR_a (op_pick_f rfl rfl) rfl rfl ?_
        refine XR_a (op_move rfl) rfl rfl ?_
        refine XR_if 24 rfl (fun h => ?_) (fun h => ?_)
        · refine XR_no rfl rfl ?_
          refine XR_no rfl rfl ?_
          refine XR_no rfl rfl ?_
          refine XR_no rfl rfl ?_
          refine XR_no rfl rfl ?_
          refine XR_no rfl rfl ?_
          refine XR_no rfl rfl ?_
          refine XR_no rfl rfl ?_
          refine XR_a (op_pick_t rfl rfl) rfl rfl ?_
          refine XR_a (op_assign rfl) rfl rfl ?_
          refine XR_nil ?_
          refine X_then rfl ?_
          refine X_seq ?_
          refine X_reg ?_
          refine XR_a (op_assign rfl) rfl rfl ?_
          refine XR_a (op_assign rfl) rfl rfl ?_
          refine XR_nil ?_
          refine X_ret (.cons (.tmp rfl) (.cons (.tmp rfl) .nil)) ?_
          rw [if_pos (by omega)] at hN
          subst hN
          exact ⟨_, rfl, fun _ => ⟨rfl, st⟩, fun h => absurd h (by decide)⟩
        · refine XR_a (op_move rfl) rfl rfl ?_
          refine XR_a (op_eql rfl rfl) rfl rfl ?_
          refine XR_a (op_move rfl) rfl rfl ?_
          refine XR_if 27 rfl (fun h => ?_) (fun h => ?_)
          · refine XR_a (op_move rfl) rfl rfl ?_
            refine XR_a (op_len rfl rfl rfl) rfl rfl ?_
            refine XR_a (op_move rfl) rfl rfl ?_
            refine XR_a (op_neq rfl rfl) rfl rfl ?_
            refine XR_a (op_pick_t rfl rfl) rfl rfl ?_
            refine XR_a (op_pick_f rfl rfl) rfl rfl ?_
            refine XR_a (op_assign rfl) rfl rfl ?_
            refine XR_nil ?_
            refine X_if rfl (fun h => ?_) (fun h => ?_)
            · refine X_seq ?_
              refine X_reg ?_
              refine XR_a (op_assign rfl) rfl rfl ?_
              refine XR_a (op_assign rfl) rfl rfl ?_
              refine XR_nil ?_
              refine X_ret (.cons (.tmp rfl) (.cons (.tmp rfl) .nil)) ?_
              rw [if_pos (by omega)] at hN
              subst hN
              exact ⟨_, rfl, fun _ => ⟨rfl, st⟩, fun h => absurd h (by decide)⟩
            · refine X_skip ?_
              refine X_blk ?_
              refine X_seq ?_
              refine X_seq ?_
              refine X_reg ?_
              refine XR_a (op_move rfl) rfl rfl ?_
              refine XR_nil ?_
              refine X_block ?_
              refine X_seq ?_
              refine X_reg ?_
              refine XR_a (op_eql rfl rfl) rfl rfl ?_
              refine XR_a (op_assign rfl) rfl rfl ?_
              refine XR_nil ?_
              refine X_if rfl (fun h => ?_) (fun h => ?_)
              · have hmt : mt = 0 := by omega
                subst hmt
                rw [if_neg (by omega), if_pos (by omega)] at hN
                subst hN
                refine X_seq ?_
                refine X_reg ?_
                refine XR_a (op_move rfl) rfl rfl ?_
                refine XR_a (op_build (ps := [(0, .slice A m c)]) (cs := #[.slice A m c]) rfl rfl) rfl rfl ?_
                refine XR_wa (opl_bx (cs := [.slice A m c]) rfl rfl) rfl rfl rfl ?_
                rintro _ hp ⟨ps, rfl, hnew⟩
                replace st := st.new hnew
                refine XR_a (op_iface rfl (by kernel_rfl)) rfl rfl ?_
                refine XR_a (op_build (ps := [(0, .iface 81 (.pointer (some ⟨ps, 0, none⟩)))]) (cs := #[.iface 81 (.pointer (some ⟨ps, 0, none⟩)), .slice none 0 0, nV 0, .bool false, nV 0]) rfl rfl) rfl rfl ?_
                refine XR_wa (opl_bx (cs := [.iface 81 (.pointer (some ⟨ps, 0, none⟩)), .slice none 0 0, nV 0, .bool false, nV 0]) rfl rfl) rfl rfl rfl ?_
                rintro _ hp ⟨pr, rfl, hnew⟩
                replace st := st.new hnew
                refine XR_a (op_assign rfl) rfl rfl ?_
                refine XR_a (op_assign rfl) rfl rfl ?_
                refine XR_nil ?_
                refine X_ret (.cons (.tmp rfl) (.cons (.tmp rfl) .nil)) ?_
                refine ⟨_, rfl, fun h => absurd rfl h, fun _ => ⟨pr, souA B h0 ps m c A l hrB hl (by omega), rfl, rfl, fun gB gE g => ?_⟩⟩
                refine St.unrdr (s := ⟨0, [], false, 0, .slice none 0 0⟩) ?_ (.inr ⟨rfl, rfl, rfl, g⟩) (Nat.zero_le _) (g.pre (mvA_ok l) rfl).2
                exact (st.nilrow 5 1).perm (List.Perm.swap _ _ _)
              · refine X_seq ?_
                refine X_reg ?_
                refine XR_a (op_eql rfl rfl) rfl rfl ?_
                refine XR_a (op_assign rfl) rfl rfl ?_
                refine XR_nil ?_
                refine X_if rfl (fun h => ?_) (fun h => ?_)
                · have hmt : mt = 2 := by omega
                  subst hmt
                  rw [if_neg (by omega), if_pos (by omega)] at hN
                  subst hN
                  obtain ⟨sz, rfl⟩ : ∃ s : Nat, size = s := ⟨size.toNat, by omega⟩
                  refine X_seq ?_
                  refine X_reg ?_
                  refine XR_a (op_move rfl) rfl rfl ?_
                  refine XR_wa (opl_call (fnew_spec) rfl (by kernel_rfl)) rfl rfl rfl ?_
                  rintro _ hp ⟨pf, rfl, st1⟩
                  replace st := st.join st1
                  simp only [List.cons_append, List.nil_append] at st
                  refine XR_a (op_move rfl) rfl rfl ?_
                  refine XR_a (op_build (ps := [(0, .pointer (some ⟨pf, 0, none⟩)), (1, nV sz)]) (cs := #[.pointer (some ⟨pf, 0, none⟩), nV sz]) rfl rfl) rfl rfl ?_
                  refine XR_wa (opl_bx (cs := [.pointer (some ⟨pf, 0, none⟩), nV sz]) rfl rfl) rfl rfl rfl ?_
                  rintro _ hp ⟨ps, rfl, hnew⟩
                  replace st := st.new hnew
                  refine XR_a (op_iface rfl (by kernel_rfl)) rfl rfl ?_
                  refine XR_a (op_build (ps := [(0, .iface 88 (.pointer (some ⟨ps, 0, none⟩)))]) (cs := #[.iface 88 (.pointer (some ⟨ps, 0, none⟩)), .slice none 0 0, nV 0, .bool false, nV 0]) rfl rfl) rfl rfl ?_
                  refine XR_wa (opl_bx (cs := [.iface 88 (.pointer (some ⟨ps, 0, none⟩)), .slice none 0 0, nV 0, .bool false, nV 0]) rfl rfl) rfl rfl rfl ?_
                  rintro _ hp ⟨pr, rfl, hnew⟩
                  replace st := st.new hnew
                  refine XR_a (op_assign rfl) rfl rfl ?_
                  refine XR_a (op_assign rfl) rfl rfl ?_
                  refine XR_nil ?_
                  refine X_ret (.cons (.tmp rfl) (.cons (.tmp rfl) .nil)) ?_
                  refine ⟨_, rfl, fun h => absurd rfl h, fun _ => ⟨pr, souS B h0 ps pf m c sz A l hrB hl hm hmc (by omega), rfl, rfl, fun gB gE g => ?_⟩⟩
                  refine St.unrdr (s := ⟨0, [], false, 0, .slice none 0 0⟩) ?_ (.inr ⟨rfl, rfl, ⟨Nat.zero_le _, Nat.zero_le _⟩, g⟩) (Nat.zero_le _) (g.pre mvS_ok ⟨Nat.zero_le _, Nat.zero_le _⟩).2
                  have g1 := St.star.2 (St.reF [_, _, _] 3 st [2, 1, 0] (by decide))
                  exact St.reF [_, _, _] 3 (g1.nilrow 5 1) [2, 0, 1] (by decide)
                · have hmt : mt = 1 := by omega
                  subst hmt
                  rw [if_neg (by omega), if_neg (by omega)] at hN
                  obtain ⟨sz, rfl⟩ : ∃ s : Nat, size = s := ⟨size.toNat, by omega⟩
                  have hok := codesT_ok (bs := bitsB l) (a := 0)
                  refine X_skip ?_
                  refine X_blk ?_
                  refine X_seq ?_
                  refine X_reg ?_
                  refine XR_a (op_move rfl) rfl rfl ?_
                  refine XR_a (op_move rfl) rfl rfl ?_
                  refine XR_wa (opl_call (unpack_spec st hrB hl hm) rfl (by kernel_rfl)) rfl rfl rfl ?_
                  rintro _ hp ⟨w, rfl, hbad, hgood⟩
                  rw [hN] at hbad hgood ⊢
                  refine XR_a (op_move rfl) rfl rfl ?_
                  refine XR_a (op_extract rfl rfl) rfl rfl ?_
                  refine XR_a (op_extract rfl rfl) rfl rfl ?_
                  refine XR_a (op_assign rfl) rfl rfl ?_
                  refine XR_a (op_assign rfl) rfl rfl ?_
                  refine XR_nil ?_
                  refine X_seq ?_
                  refine X_seq ?_
                  refine X_reg ?_
                  refine XR_a (op_move rfl) rfl rfl ?_
                  refine XR_a (op_neq rfl rfl) rfl rfl ?_
                  refine XR_nil ?_
                  refine X_if rfl (fun h => ?_) (fun h => ?_)
                  · refine X_seq ?_
                    refine X_reg ?_
                    refine XR_a (op_move rfl) rfl rfl ?_
                    refine XR_a (op_assign rfl) rfl rfl ?_
                    refine XR_a (op_assign rfl) rfl rfl ?_
                    refine XR_nil ?_
                    refine X_ret (.cons (.tmp rfl) (.cons (.tmp rfl) .nil)) ?_
                    exact ⟨_, rfl, fun h9 => ⟨rfl, (hbad h9).2⟩, fun h9 => by omega⟩
                  · have hN0 : N = 0 := by omega
                    obtain ⟨hat, pk, q, t1, t2, rfl, st⟩ := hgood hN0
                    obtain ⟨oka, okb, na, nb⟩ := hok (by omega)
                    refine X_skip ?_
                    refine X_seq ?_
                    refine X_reg ?_
                    refine XR_a (op_move rfl) rfl rfl ?_
                    refine XR_a (op_iface rfl (by kernel_rfl)) rfl rfl ?_
                    refine XR_a (op_build (ps := [(0, .iface 93 (.pointer (some ⟨pk, 0, none⟩)))]) (cs := #[.iface 93 (.pointer (some ⟨pk, 0, none⟩)), .slice none 0 0, nV 0, .bool false, nV 0]) rfl rfl) rfl rfl ?_
                    refine XR_wa (opl_bx (cs := [.iface 93 (.pointer (some ⟨pk, 0, none⟩)), .slice none 0 0, nV 0, .bool false, nV 0]) rfl rfl) rfl rfl rfl ?_
                    rintro _ hp ⟨pr, rfl, hnew⟩
                    replace st := st.new hnew
                    refine XR_a (op_assign rfl) rfl rfl ?_
                    refine XR_a (op_assign rfl) rfl rfl ?_
                    refine XR_nil ?_
                    refine X_ret (.cons (.tmp rfl) (.cons (.tmp rfl) .nil)) ?_
                    subst hN0
                    have hat : (codesT (bitsB l) 0).2.2.2 ≤ (bitsB l).length := by rw [bitsB_length, hl]; exact hat
                    refine ⟨_, rfl, fun h => absurd rfl h, fun _ => ⟨pr, souP B h0 pk q t1 t2 m c sz A l _ _ oka okb na nb hrB hl hm (by omega), rfl, rfl, fun gB gE g => ?_⟩⟩
                    refine St.unrdr (s := ⟨(codesT (bitsB l) 0).2.2.2, [], false, 0, .slice none 0 0⟩) ?_ (.inr ⟨rfl, rfl, ⟨hat, Nat.zero_le _⟩, g⟩) (Nat.zero_le _) (g.pre (mvP_ok oka okb) ⟨hat, Nat.zero_le _⟩).2
                    have g1 := St.star.2 (St.reF [_, _, _, _, _] 5 st [3, 4, 1, 2, 0] (by decide))
                    have g2 := St.star.2 (St.reF [_, _, _, _] 4 g1 [2, 0, 1, 3] (by decide))
                    have g3 := St.star.2 (St.reF [_, _, _] 3 g2 [1, 0, 2] (by decide))
                    exact St.reF [_, _, _] 3 (g3.nilrow 5 1) [2, 0, 1] (by decide)
          · refine XR_no rfl rfl ?_
            refine XR_no rfl rfl ?_
            refine XR_no rfl rfl ?_
            refine XR_no rfl rfl ?_
            refine XR_a (op_pick_f rfl rfl) rfl rfl ?_
            refine XR_a (op_pick_f rfl rfl) rfl rfl ?_
            refine XR_a (op_assign rfl) rfl rfl ?_
            refine XR_nil ?_
            refine X_else rfl ?_
            refine X_skip ?_
            refine X_blk ?_
            refine X_seq ?_
            refine X_seq ?_
            refine X_reg ?_
            refine XR_a (op_move rfl) rfl rfl ?_
            refine XR_nil ?_
            refine X_block ?_
            refine X_seq ?_
            refine X_reg ?_
            refine XR_a (op_eql rfl rfl) rfl rfl ?_
            refine XR_a (op_assign rfl) rfl rfl ?_
            refine XR_nil ?_
            refine X_if rfl (fun h => ?_) (fun h => ?_)
            · have hmt : mt = 0 := by omega
              subst hmt
              rw [if_neg (by omega), if_pos (by omega)] at hN
              subst hN
              refine X_seq ?_
              refine X_reg ?_
              refine XR_a (op_move rfl) rfl rfl ?_
              refine XR_a (op_build (ps := [(0, .slice A m c)]) (cs := #[.slice A m c]) rfl rfl) rfl rfl ?_
              refine XR_wa (opl_bx (cs := [.slice A m c]) rfl rfl) rfl rfl rfl ?_
              rintro _ hp ⟨ps, rfl, hnew⟩
              replace st := st.new hnew
              refine XR_a (op_iface rfl (by kernel_rfl)) rfl rfl ?_
              refine XR_a (op_build (ps := [(0, .iface 81 (.pointer (some ⟨ps, 0, none⟩)))]) (cs := #[.iface 81 (.pointer (some ⟨ps, 0, none⟩)), .slice none 0 0, nV 0, .bool false, nV 0]) rfl rfl) rfl rfl ?_
              refine XR_wa (opl_bx (cs := [.iface 81 (.pointer (some ⟨ps, 0, none⟩)), .slice none 0 0, nV 0, .bool false, nV 0]) rfl rfl) rfl rfl rfl ?_
              rintro _ hp ⟨pr, rfl, hnew⟩
              replace st := st.new hnew
              refine XR_a (op_assign rfl) rfl rfl ?_
              refine XR_a (op_assign rfl) rfl rfl ?_
              refine XR_nil ?_
              refine X_ret (.cons (.tmp rfl) (.cons (.tmp rfl) .nil)) ?_
              refine ⟨_, rfl, fun h => absurd rfl h, fun _ => ⟨pr, souA B h0 ps m c A l hrB hl (by omega), rfl, rfl, fun gB gE g => ?_⟩⟩
              refine St.unrdr (s := ⟨0, [], false, 0, .slice none 0 0⟩) ?_ (.inr ⟨rfl, rfl, rfl, g⟩) (Nat.zero_le _) (g.pre (mvA_ok l) rfl).2
              exact (st.nilrow 5 1).perm (List.Perm.swap _ _ _)
            · refine X_seq ?_
              refine X_reg ?_
              refine XR_a (op_eql rfl rfl) rfl rfl ?_
              refine XR_a (op_assign rfl) rfl rfl ?_
              refine XR_nil ?_
              refine X_if rfl (fun h => ?_) (fun h => ?_)
              · have hmt : mt = 2 := by omega
                subst hmt
                rw [if_neg (by omega), if_pos (by omega)] at hN
                subst hN
                obtain ⟨sz, rfl⟩ : ∃ s : Nat, size = s := ⟨size.toNat, by omega⟩
                refine X_seq ?_
                refine X_reg ?_
                refine XR_a (op_move rfl) rfl rfl ?_
                refine XR_wa (opl_call (fnew_spec) rfl (by kernel_rfl)) rfl rfl rfl ?_
                rintro _ hp ⟨pf, rfl, st1⟩
                replace st := st.join st1
                simp only [List.cons_append, List.nil_append] at st
                refine XR_a (op_move rfl) rfl rfl ?_
                refine XR_a (op_build (ps := [(0, .pointer (some ⟨pf, 0, none⟩)), (1, nV sz)]) (cs := #[.pointer (some ⟨pf, 0, none⟩), nV sz]) rfl rfl) rfl rfl ?_
                refine XR_wa (opl_bx (cs := [.pointer (some ⟨pf, 0, none⟩), nV sz]) rfl rfl) rfl rfl rfl ?_
                rintro _ hp ⟨ps, rfl, hnew⟩
                replace st := st.new hnew
                refine XR_a (op_iface rfl (by kernel_rfl)) rfl rfl ?_
                refine XR_a (op_build (ps := [(0, .iface 88 (.pointer (some ⟨ps, 0, none⟩)))]) (cs := #[.iface 88 (.pointer (some ⟨ps, 0, none⟩)), .slice none 0 0, nV 0, .bool false, nV 0]) rfl rfl) rfl rfl ?_
                refine XR_wa (opl_bx (cs := [.iface 88 (.pointer (some ⟨ps, 0, none⟩)), .slice none 0 0, nV 0, .bool false, nV 0]) rfl rfl) rfl rfl rfl ?_
                rintro _ hp ⟨pr, rfl, hnew⟩
                replace st := st.new hnew
                refine XR_a (op_assign rfl) rfl rfl ?_
                refine XR_a (op_assign rfl) rfl rfl ?_
                refine XR_nil ?_
                refine X_ret (.cons (.tmp rfl) (.cons (.tmp rfl) .nil)) ?_
                refine ⟨_, rfl, fun h => absurd rfl h, fun _ => ⟨pr, souS B h0 ps pf m c sz A l hrB hl hm hmc (by omega), rfl, rfl, fun gB gE g => ?_⟩⟩
                refine St.unrdr (s := ⟨0, [], false, 0, .slice none 0 0⟩) ?_ (.inr ⟨rfl, rfl, ⟨Nat.zero_le _, Nat.zero_le _⟩, g⟩) (Nat.zero_le _) (g.pre mvS_ok ⟨Nat.zero_le _, Nat.zero_le _⟩).2
                have g1 := St.star.2 (St.reF [_, _, _] 3 st [2, 1, 0] (by decide))
                exact St.reF [_, _, _] 3 (g1.nilrow 5 1) [2, 0, 1] (by decide)
              · have hmt : mt = 1 := by omega
                subst hmt
                rw [if_neg (by omega), if_neg (by omega)] at hN
                obtain ⟨sz, rfl⟩ : ∃ s : Nat, size = s := ⟨size.toNat, by omega⟩
                have hok := codesT_ok (bs := bitsB l) (a := 0)
                refine X_skip ?_
                refine X_blk ?_
                refine X_seq ?_
                refine X_reg ?_
                refine XR_a (op_move rfl) rfl rfl ?_
                refine XR_a (op_move rfl) rfl rfl ?_
                refine XR_wa (opl_call (unpack_spec st hrB hl hm) rfl (by kernel_rfl)) rfl rfl rfl ?_
                rintro _ hp ⟨w, rfl, hbad, hgood⟩
                rw [hN] at hbad hgood ⊢
                refine XR_a (op_move rfl) rfl rfl ?_
                refine XR_a (op_extract rfl rfl) rfl rfl ?_
                refine XR_a (op_extract rfl rfl) rfl rfl ?_
                refine XR_a (op_assign rfl) rfl rfl ?_
                refine XR_a (op_assign rfl) rfl rfl ?_
                refine XR_nil ?_
                refine X_seq ?_
                refine X_seq ?_
                refine X_reg ?_
                refine XR_a (op_move rfl) rfl rfl ?_
                refine XR_a (op_neq rfl rfl) rfl rfl ?_
                refine XR_nil ?_
                refine X_if rfl (fun h => ?_) (fun h => ?_)
                · refine X_seq ?_
                  refine X_reg ?_
                  refine XR_a (op_move rfl) rfl rfl ?_
                  refine XR_a (op_assign rfl) rfl rfl ?_
                  refine XR_a (op_assign rfl) rfl rfl ?_
                  refine XR_nil ?_
                  refine X_ret (.cons (.tmp rfl) (.cons (.tmp rfl) .nil)) ?_
                  exact ⟨_, rfl, fun h9 => ⟨rfl, (hbad h9).2⟩, fun h9 => by omega⟩
                · have hN0 : N = 0 := by omega
                  obtain ⟨hat, pk, q, t1, t2, rfl, st⟩ := hgood hN0
                  obtain ⟨oka, okb, na, nb⟩ := hok (by omega)
                  refine X_skip ?_
                  refine X_seq ?_
                  refine X_reg ?_
                  refine XR_a (op_move rfl) rfl rfl ?_
                  refine XR_a (op_iface rfl (by kernel_rfl)) rfl rfl ?_
                  refine XR_a (op_build (ps := [(0, .iface 93 (.pointer (some ⟨pk, 0, none⟩)))]) (cs := #[.iface 93 (.pointer (some ⟨pk, 0, none⟩)), .slice none 0 0, nV 0, .bool false, nV 0]) rfl rfl) rfl rfl ?_
                  refine XR_wa (opl_bx (cs := [.iface 93 (.pointer (some ⟨pk, 0, none⟩)), .slice none 0 0, nV 0, .bool false, nV 0]) rfl rfl) rfl rfl rfl ?_
                  rintro _ hp ⟨pr, rfl, hnew⟩
                  replace st := st.new hnew
                  refine XR_a (op_assign rfl) rfl rfl ?_
                  refine XR_a (op_assign rfl) rfl rfl ?_
                  refine XR_nil ?_
                  refine X_ret (.cons (.tmp rfl) (.cons (.tmp rfl) .nil)) ?_
                  subst hN0
                  have hat : (codesT (bitsB l) 0).2.2.2 ≤ (bitsB l).length := by rw [bitsB_length, hl]; exact hat
                  refine ⟨_, rfl, fun h => absurd rfl h, fun _ => ⟨pr, souP B h0 pk q t1 t2 m c sz A l _ _ oka okb na nb hrB hl hm (by omega), rfl, rfl, fun gB gE g => ?_⟩⟩
                  refine St.unrdr (s := ⟨(codesT (bitsB l) 0).2.2.2, [], false, 0, .slice none 0 0⟩) ?_ (.inr ⟨rfl, rfl, ⟨hat, Nat.zero_le _⟩, g⟩) (Nat.zero_le _) (g.pre (mvP_ok oka okb) ⟨hat, Nat.zero_le _⟩).2
                  have g1 := St.star.2 (St.reF [_, _, _, _, _] 5 st [3, 4, 1, 2, 0] (by decide))
                  have g2 := St.star.2 (St.reF [_, _, _, _] 4 g1 [2, 0, 1, 3] (by decide))
                  have g3 := St.star.2 (St.reF [_, _, _] 3 g2 [1, 0, 2] (by decide))
                  exact St.reF [_, _, _] 3 (g3.nilrow 5 1) [2, 0, 1] (by decide)
end Go.Bn
end
