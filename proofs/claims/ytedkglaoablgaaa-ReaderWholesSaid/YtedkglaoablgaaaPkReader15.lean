/- Packed texts of a claim: what its theorem uses, joined. -/
import Derived.Test.YtedkglaoablgaaaPkReader11
import Derived.Test.YtedkglaoablgaaaPkReader14
section
set_option linter.unusedVariables false
set_option linter.unusedSimpArgs false
set_option maxHeartbeats 4000000
set_option maxRecDepth 20000
namespace Go.Bn
open Go Proofs
noncomputable def souA (B : Nat) (hb : Heap) (ps m c : Nat) (A : Option Addr) (l : List UInt8) (hr : ∀ h', Low B hb h' → Rd h' A (l.map byteV)) (hl : l.length = m) (hm : m ≤ 65536) : Sou B where
  hb := hb
  T := 81
  rv := .pointer (some ⟨ps, 0, none⟩)
  f := 208
  SR := fun _ => pt ps 83 [.slice A m c]
  mv := mvA l
  I := fun _ out => out = []
  lim := l.length
  ok := mvA_ok l
  hlim := by omega
  hm := meth_stored ps
  hc := by kernel_rfl
  more := by
    intro h0 v a out F hlow hI st
    subst hI
    refine (amore_spec st (fun h' hh => hr h' (hlow.trans hh)) hl (by omega)).mono ?_
    rintro u h' ⟨v', rfl, st2⟩
    exact ⟨v', rfl, fun _ => (St.reF [_, _] 2 st2 [1, 0] (by decide)).tail, fun h => by cases h⟩
noncomputable def souS (B : Nat) (hb : Heap) (ps pf m c size : Nat) (A : Option Addr) (l : List UInt8) (hr : ∀ h', Low B hb h' → Rd h' A (l.map byteV)) (hl : l.length = m) (hm : m ≤ 1073741824) (hmc : m ≤ c) (hs : size ≤ 1048576) : Sou B where
  hb := hb
  T := 88
  rv := .pointer (some ⟨ps, 0, none⟩)
  f := 209
  SR := fun a => starR (fdG pf A m c a false) (pcG ps pf size)
  mv := mvS l size
  I := fun a out => a ≤ l.length ∧ out.length ≤ size
  lim := size
  ok := mvS_ok
  hlim := hs
  hm := meth_pieces ps
  hc := by kernel_rfl
  more := by
    intro h0 v a out F hlow hI st
    have st1 := St.reF [_, _] 2 st [1, 0] (by decide)
    have st2 := St.reF [_, _, _] 3 (St.star.1 st1) [2, 0, 1] (by decide)
    refine (smore_spec st2 (fun h' hh => hr h' (hlow.trans hh)) hl hm hmc (by omega) hs hI.2).mono ?_
    rintro u h' ⟨v', bad, a', rfl, st3, hov⟩
    refine ⟨v', rfl, fun _ => (St.reF [_, _, _] 3 st3 [1, 2, 0] (by decide)).tail.tail, fun h => ?_⟩
    obtain ⟨rfl, rfl⟩ := hov h
    exact (St.star.2 (St.reF [_, _, _] 3 st3 [1, 2, 0] (by decide))).perm (List.Perm.swap _ _ _)
noncomputable def souP (B : Nat) (hb : Heap) (pk q t1 t2 m c size : Nat) (A : Option Addr) (l : List UInt8) (la lb : List Nat) (oka : lensOK la) (okb : lensOK lb) (na : la.length = 273) (nb : lb.length = 30) (hr : ∀ h', Low B hb h' → Rd h' A (l.map byteV)) (hl : l.length = m) (hm : m ≤ 1073741824) (hs : size ≤ 1048576) : Sou B where
  hb := hb
  T := 93
  rv := .pointer (some ⟨pk, 0, none⟩)
  f := 212
  SR := fun a => starR (rdG q A m c a) (starR (tabR t1 (qcodes la) 9) (starR (tabR t2 (qcodes lb) 9) (pkG pk q t1 t2 size)))
  mv := mvP la lb (bitsB l) size
  I := fun a out => a ≤ (bitsB l).length ∧ out.length ≤ size
  lim := size
  ok := mvP_ok oka okb
  hlim := hs
  hm := meth_packed pk
  hc := by kernel_rfl
  more := by
    intro h0 v a out F hlow hI st
    have hbl := bitsB_length l
    have st1 := St.star.1 (St.reF [_, _] 2 st [1, 0] (by decide))
    have st2 := St.star.1 (St.reF [_, _, _] 3 st1 [1, 0, 2] (by decide))
    have st3 := St.star.1 (St.reF [_, _, _, _] 4 st2 [1, 0, 2, 3] (by decide))
    have st4 := St.reF [_, _, _, _, _] 5 st3 [4, 3, 2, 0, 1] (by decide)
    refine (pmore_spec st4 oka okb na nb (fun h' hh => hr h' (hlow.trans hh)) hl hm (by have := hI.1; omega) hs hI.2).mono ?_
    rintro u h' ⟨v', rfl, st5⟩
    refine ⟨v', rfl, fun _ => (St.reF [_, _, _, _, _] 5 st5 [1, 2, 3, 4, 0] (by decide)).tail.tail.tail.tail, fun h => ?_⟩
    have g1 := St.star.2 (St.reF [_, _, _, _, _] 5 st5 [3, 4, 0, 1, 2] (by decide))
    have g2 := St.star.2 (St.reF [_, _, _, _] 4 g1 [3, 0, 1, 2] (by decide))
    have g3 := St.star.2 (St.reF [_, _, _] 3 g2 [2, 0, 1] (by decide))
    exact g3.perm (List.Perm.swap _ _ _)
theorem castI_iV (z : List Nat) : z.map nV = (castI z).map iV := by unfold castI; rw [List.map_map]; rfl
theorem unpack_spec {B m c size : Nat} {A : Option Addr} {l : List UInt8} {F : List Res} {h0 : Heap} (st0 : St B h0 h0 F) (hrB : ∀ h', Low B h0 h' → Rd h' A (l.map byteV)) (hl : l.length = m) (hm : m ≤ 1073741824) :
    Ret Try.prog 48 [.slice A m c, nV size] h0 fun v h' => ∃ w, v = retVal [w, nV (codesT (bitsB l) 0).1] ∧ ((codesT (bitsB l) 0).1 ≠ 0 → w = .pointer none ∧ St B h0 h' F) ∧
      ((codesT (bitsB l) 0).1 = 0 → (codesT (bitsB l) 0).2.2.2 ≤ 8 * m ∧ ∃ pk q t1 t2, w = .pointer (some ⟨pk, 0, none⟩) ∧ St B h0 h' (rdG q A m c (codesT (bitsB l) 0).2.2.2 :: tabR t1 (qcodes (codesT (bitsB l) 0).2.1) 9 :: tabR t2 (qcodes (codesT (bitsB l) 0).2.2.1) 9 :: pkG pk q t1 t2 size :: F)) := by
  obtain ⟨N, hN⟩ : ∃ N, codesT (bitsB l) 0 = N := ⟨_, rfl⟩
  rw [hN]
  unfold codesT at hN
  obtain ⟨X, hX⟩ : ∃ X, takeR (bitsB l) 0 (okR (bitsB l) 0) = X := ⟨_, rfl⟩
  rw [hX] at hN
  obtain ⟨Y, hY⟩ : ∃ Y, takeR (bitsB l) X.2.1 (okR (bitsB l) X.2.1) = Y := ⟨_, rfl⟩
  rw [hY] at hN
  have w9 : widthN 9 = 9 := rfl
  refine ret_of_X Try.func48 rfl rfl fun w0 hw0 => ?_
  simp only [argE, Nat.zero_add, Nat.reduceAdd]
  refine X_seq ?_
  refine X_reg ?_
  refine XR_a (op_assign rfl) rfl rfl ?_
  refine XR_a (op_assign rfl) rfl rfl ?_
  refine XR_nil ?_
  refine X_seq ?_
  refine X_reg ?_
  refine XR_a (op_move rfl) rfl rfl ?_
  refine XR_wa (opl_call (rnew_spec) rfl (by kernel_rfl)) rfl rfl rfl ?_
  rintro _ hp ⟨q, rfl, st1⟩
  have st := st0.join st1
  simp only [List.cons_append, List.nil_append] at st
  clear st1
  refine XR_a (op_move rfl) rfl rfl ?_
  refine XR_a (op_build (ps := [(0, .pointer (some ⟨q, 0, none⟩)), (3, nV size)]) (cs := #[.pointer (some ⟨q, 0, none⟩), .pointer none, .pointer none, nV size]) rfl rfl) rfl rfl ?_
  refine XR_wa (opl_bx (cs := [.pointer (some ⟨q, 0, none⟩), .pointer none, .pointer none, nV size]) rfl rfl) rfl rfl rfl ?_
  rintro _ hp ⟨pk, rfl, hnew⟩
  replace st := (st.new hnew).perm (List.Perm.swap _ _ _)
  refine XR_a (op_assign rfl) rfl rfl ?_
  refine XR_nil ?_
  refine X_seq ?_
  refine X_reg ?_
  refine XR_a (op_move rfl) rfl rfl ?_
  refine XR_a (op_nilCheck rfl) rfl rfl ?_
  first | refine XR_a (op_field0 rfl rfl) rfl rfl ?_ | refine XR_a (op_fieldn rfl rfl) rfl rfl ?_
  refine XR_a (op_ld (st.cell 1 (i := 0) rfl rfl) rfl rfl rfl) rfl rfl ?_
  refine XR_wa (opl_call (rtake_runs st.here (fun h' hh => hrB h' (st.low.trans hh)) hl hm (by omega)) rfl (by kernel_rfl)) rfl rfl rfl ?_
  rintro _ hp1 ⟨w1, a1, rfl, ha1, hat, st2⟩
  rw [hX] at hat st2 ⊢
  replace st := st.trans st2
  clear st2
  obtain ⟨A1, n1, c1, rfl, hl1, _⟩ := st.row 0 rfl
  rw [List.length_map, Nat.mul_one] at hl1
  refine XR_a (op_move rfl) rfl rfl ?_
  refine XR_a (op_extract rfl rfl) rfl rfl ?_
  refine XR_a (op_extract rfl rfl) rfl rfl ?_
  refine XR_a (op_assign rfl) rfl rfl ?_
  refine XR_a (op_assign rfl) rfl rfl ?_
  refine XR_nil ?_
  refine X_seq ?_
  refine X_seq ?_
  refine X_reg ?_
  refine XR_a (op_move rfl) rfl rfl ?_
  refine XR_a (op_neq rfl rfl) rfl rfl ?_
  refine XR_nil ?_
  refine X_if rfl (fun h => ?_) (fun h => ?_)
  · rw [if_pos (by omega)] at hN
    subst hN
    refine X_seq ?_
    refine X_reg ?_
    refine XR_a (op_move rfl) rfl rfl ?_
    refine XR_a (op_assign rfl) rfl rfl ?_
    refine XR_a (op_assign rfl) rfl rfl ?_
    refine XR_nil ?_
    refine X_ret (.cons (.tmp rfl) (.cons (.tmp rfl) .nil)) ?_
    exact ⟨_, rfl, fun _ => ⟨rfl, st.tail.tail.tail⟩, fun h9 => absurd h9 (by simp only; omega)⟩
  · rw [if_neg (by omega)] at hN
    obtain rfl := hat (by omega)
    replace st := St.reF [_, _, _] 3 st [1, 0, 2] (by decide)
    simp only [List.map_cons, List.map_nil, getR, List.cons_append, List.nil_append] at st
    refine X_skip ?_
    refine X_seq ?_
    refine X_reg ?_
    refine XR_a (op_move rfl) rfl rfl ?_
    refine XR_a (op_nilCheck rfl) rfl rfl ?_
    first | refine XR_a (op_field0 rfl rfl) rfl rfl ?_ | refine XR_a (op_fieldn rfl rfl) rfl rfl ?_
    refine XR_a (op_ld (st.cell 2 (i := 0) rfl rfl) rfl rfl rfl) rfl rfl ?_
    refine XR_wa (opl_call (rtake_runs st.here (fun h' hh => hrB h' (st.low.trans hh)) hl hm ha1) rfl (by kernel_rfl)) rfl rfl rfl ?_
    rintro _ hp2 ⟨w2, a2, rfl, ha2, hat2, st2⟩
    rw [hY] at hat2 st2 ⊢
    replace st := st.trans st2
    clear st2
    obtain ⟨A2, n2, c2, rfl, hl2, _⟩ := st.row 0 rfl
    rw [List.length_map, Nat.mul_one] at hl2
    refine XR_a (op_move rfl) rfl rfl ?_
    refine XR_a (op_extract rfl rfl) rfl rfl ?_
    refine XR_a (op_extract rfl rfl) rfl rfl ?_
    refine XR_a (op_assign rfl) rfl rfl ?_
    refine XR_a (op_assign rfl) rfl rfl ?_
    refine XR_nil ?_
    refine X_seq ?_
    refine X_block ?_
    refine X_seq ?_
    refine X_reg ?_
    refine XR_a (op_move rfl) rfl rfl ?_
    refine XR_a (op_neq rfl rfl) rfl rfl ?_
    refine XR_a (op_assign rfl) rfl rfl ?_
    refine XR_nil ?_
    refine X_if rfl (fun h => ?_) (fun h => ?_)
    · rw [if_pos (by omega)] at hN
      subst hN
      refine X_seq ?_
      refine X_reg ?_
      refine XR_a (op_move rfl) rfl rfl ?_
      refine XR_a (op_assign rfl) rfl rfl ?_
      refine XR_a (op_assign rfl) rfl rfl ?_
      refine XR_nil ?_
      refine X_ret (.cons (.tmp rfl) (.cons (.tmp rfl) .nil)) ?_
      exact ⟨_, rfl, fun _ => ⟨rfl, st.tail.tail.tail.tail⟩, fun h9 => absurd h9 (by simp only; omega)⟩
    · rw [if_neg (by omega)] at hN
      obtain rfl := hat2 (by omega)
      refine X_seq ?_
      refine X_reg ?_
      refine XR_a (op_move rfl) rfl rfl ?_
      refine XR_a (op_len rfl rfl rfl) rfl rfl ?_
      refine XR_a (op_neq rfl rfl) rfl rfl ?_
      refine XR_a (op_move rfl) rfl rfl ?_
      refine XR_if 42 rfl (fun h => ?_) (fun h => ?_)
      · rw [if_pos (by omega)] at hN
        subst hN
        refine XR_no rfl rfl ?_
        refine XR_no rfl rfl ?_
        refine XR_no rfl rfl ?_
        refine XR_a (op_pick_t rfl rfl) rfl rfl ?_
        refine XR_a (op_assign rfl) rfl rfl ?_
        refine XR_nil ?_
        refine X_then rfl ?_
        refine X_seq ?_
        refine X_reg ?_
        refine XR_a (op_assign rfl) rfl rfl ?_
        refine XR_a (op_assign rfl) rfl rfl ?_
        refine XR_nil ?_
        refine X_ret (.cons (.tmp rfl) (.cons (.tmp rfl) .nil)) ?_
        exact ⟨_, rfl, fun _ => ⟨rfl, st.tail.tail.tail.tail⟩, fun h9 => absurd h9 (by decide)⟩
      · refine XR_a (op_move rfl) rfl rfl ?_
        refine XR_a (op_len rfl rfl rfl) rfl rfl ?_
        refine XR_a (op_neq rfl rfl) rfl rfl ?_
        refine XR_a (op_pick_f rfl rfl) rfl rfl ?_
        refine XR_a (op_assign rfl) rfl rfl ?_
        refine XR_nil ?_
        refine X_if rfl (fun h => ?_) (fun h => ?_)
        · rw [if_pos (by omega)] at hN
          subst hN
          refine X_seq ?_
          refine X_reg ?_
          refine XR_a (op_assign rfl) rfl rfl ?_
          refine XR_a (op_assign rfl) rfl rfl ?_
          refine XR_nil ?_
          refine X_ret (.cons (.tmp rfl) (.cons (.tmp rfl) .nil)) ?_
          exact ⟨_, rfl, fun _ => ⟨rfl, st.tail.tail.tail.tail⟩, fun h9 => absurd h9 (by decide)⟩
        · rw [if_neg (by omega)] at hN
          refine X_skip ?_
          refine X_blk ?_
          refine X_seq ?_
          refine X_seq ?_
          refine X_reg ?_
          refine XR_a (op_move rfl) rfl rfl ?_
          refine XR_a (op_move rfl) rfl rfl ?_
          refine XR_wa (opl_call (qnew_spec (li := castI X.1) 9 (by rw [← castI_iV]; exact (st.rdS 2 rfl).2) (by unfold castI; rw [List.length_map]; exact hl1) (by omega)) rfl (by kernel_rfl)) rfl rfl rfl ?_
          rintro _ hp3 ⟨w3, rfl, hx3, hy3, hz3⟩
          rw [castI_toNat] at hy3
          refine XR_a (op_move rfl) rfl rfl ?_
          by_cases hR1 : rightC (castI X.1)
          · obtain ⟨t1, rfl, st3⟩ := hy3 hR1
            rw [w9] at st3
            replace st := st.join st3
            simp only [List.cons_append, List.nil_append] at st
            replace st := St.reF [_, _, _, _, _] 5 st [4, 0, 1, 2, 3] (by decide)
            simp only [List.map_cons, List.map_nil, getR, List.cons_append, List.nil_append] at st
            rw [show errC (castI X.1) = 0 by unfold errC; rw [if_pos hR1]]
            refine XR_a (op_extract rfl rfl) rfl rfl ?_
            refine XR_a (op_extract rfl rfl) rfl rfl ?_
            refine XR_a (op_nilCheck rfl) rfl rfl ?_
            first | refine XR_a (op_field0 rfl rfl) rfl rfl ?_ | refine XR_a (op_fieldn rfl rfl) rfl rfl ?_
            refine XR_wn (opl_store_pt st 0 rfl rfl rfl rfl rfl (rfl)) rfl rfl fun _ hp st => ?_
            simp only [List.set_cons_zero, List.set_cons_succ] at st
            refine XR_a (op_assign rfl) rfl rfl ?_
            refine XR_nil ?_
            refine X_seq ?_
            refine X_reg ?_
            refine XR_a (op_move rfl) rfl rfl ?_
            refine XR_a (op_neq rfl rfl) rfl rfl ?_
            refine XR_as (.bool false) (congrArg Value.bool (decide_eq_false (by simp))) ?_
            refine XR_nil ?_
            refine X_else rfl ?_
            refine X_skip ?_
            refine X_seq ?_
            refine X_seq ?_
            refine X_reg ?_
            refine XR_a (op_move rfl) rfl rfl ?_
            refine XR_a (op_move rfl) rfl rfl ?_
            refine XR_wa (opl_call (qnew_spec (li := castI Y.1) 9 (by rw [← castI_iV]; exact (st.rdS 2 rfl).2) (by unfold castI; rw [List.length_map]; exact hl2) (by omega)) rfl (by kernel_rfl)) rfl rfl rfl ?_
            rintro _ hp4 ⟨w4, rfl, hx4, hy4, hz4⟩
            rw [castI_toNat] at hy4
            refine XR_a (op_move rfl) rfl rfl ?_
            by_cases hR2 : rightC (castI Y.1)
            · obtain ⟨t2, rfl, st4⟩ := hy4 hR2
              rw [w9] at st4
              replace st := st.join st4
              simp only [List.cons_append, List.nil_append] at st
              replace st := St.reF [_, _, _, _, _, _] 6 st [1, 0, 2, 3, 4, 5] (by decide)
              simp only [List.map_cons, List.map_nil, getR, List.cons_append, List.nil_append] at st
              rw [show errC (castI Y.1) = 0 by unfold errC; rw [if_pos hR2]]
              rw [if_neg (by rintro (h | h) <;> exact h (by assumption))] at hN
              subst hN
              refine XR_a (op_extract rfl rfl) rfl rfl ?_
              refine XR_a (op_extract rfl rfl) rfl rfl ?_
              refine XR_a (op_nilCheck rfl) rfl rfl ?_
              first | refine XR_a (op_field0 rfl rfl) rfl rfl ?_ | refine XR_a (op_fieldn rfl rfl) rfl rfl ?_
              refine XR_wn (opl_store_pt st 0 rfl rfl rfl rfl rfl (rfl)) rfl rfl fun _ hp st => ?_
              simp only [List.set_cons_zero, List.set_cons_succ] at st
              refine XR_a (op_assign rfl) rfl rfl ?_
              refine XR_nil ?_
              refine X_seq ?_
              refine X_reg ?_
              refine XR_a (op_move rfl) rfl rfl ?_
              refine XR_a (op_neq rfl rfl) rfl rfl ?_
              refine XR_as (.bool false) (congrArg Value.bool (decide_eq_false (by simp))) ?_
              refine XR_nil ?_
              refine X_else rfl ?_
              refine X_skip ?_
              refine X_seq ?_
              refine X_reg ?_
              refine XR_a (op_move rfl) rfl rfl ?_
              refine XR_a (op_assign rfl) rfl rfl ?_
              refine XR_a (op_assign rfl) rfl rfl ?_
              refine XR_nil ?_
              refine X_ret (.cons (.tmp rfl) (.cons (.tmp rfl) .nil)) ?_
              refine ⟨_, rfl, fun h9 => absurd rfl h9, fun _ => ⟨ha2, pk, q, t1, t2, rfl, ?_⟩⟩
              exact (St.reF [_, _, _, _, _, _] 6 st [3, 5, 4, 2, 1, 0] (by decide)).tail.tail
            · obtain rfl := hz4 hR2
              replace st := st.ext hx4
              rw [show errC (castI Y.1) = 13 by unfold errC; rw [if_neg hR2]]
              rw [if_pos (.inr hR2)] at hN
              subst hN
              refine XR_a (op_extract rfl rfl) rfl rfl ?_
              refine XR_a (op_extract rfl rfl) rfl rfl ?_
              refine XR_a (op_nilCheck rfl) rfl rfl ?_
              first | refine XR_a (op_field0 rfl rfl) rfl rfl ?_ | refine XR_a (op_fieldn rfl rfl) rfl rfl ?_
              refine XR_wn (opl_store_pt st 0 rfl rfl rfl rfl rfl (rfl)) rfl rfl fun _ hp st => ?_
              simp only [List.set_cons_zero, List.set_cons_succ] at st
              refine XR_a (op_assign rfl) rfl rfl ?_
              refine XR_nil ?_
              refine X_seq ?_
              refine X_reg ?_
              refine XR_a (op_move rfl) rfl rfl ?_
              refine XR_a (op_neq rfl rfl) rfl rfl ?_
              refine XR_as (.bool true) (congrArg Value.bool (decide_eq_true (by simp))) ?_
              refine XR_nil ?_
              refine X_then rfl ?_
              refine X_seq ?_
              refine X_reg ?_
              refine XR_a (op_move rfl) rfl rfl ?_
              refine XR_a (op_assign rfl) rfl rfl ?_
              refine XR_a (op_assign rfl) rfl rfl ?_
              refine XR_nil ?_
              refine X_ret (.cons (.tmp rfl) (.cons (.tmp rfl) .nil)) ?_
              exact ⟨_, rfl, fun _ => ⟨rfl, st.tail.tail.tail.tail.tail⟩, fun h9 => absurd h9 (by decide)⟩
          · obtain rfl := hz3 hR1
            replace st := st.ext hx3
            replace st := St.reF [_, _, _, _] 4 st [3, 0, 1, 2] (by decide)
            simp only [List.map_cons, List.map_nil, getR, List.cons_append, List.nil_append] at st
            rw [show errC (castI X.1) = 13 by unfold errC; rw [if_neg hR1]]
            rw [if_pos (.inl hR1)] at hN
            subst hN
            refine XR_a (op_extract rfl rfl) rfl rfl ?_
            refine XR_a (op_extract rfl rfl) rfl rfl ?_
            refine XR_a (op_nilCheck rfl) rfl rfl ?_
            first | refine XR_a (op_field0 rfl rfl) rfl rfl ?_ | refine XR_a (op_fieldn rfl rfl) rfl rfl ?_
            refine XR_wn (opl_store_pt st 0 rfl rfl rfl rfl rfl (rfl)) rfl rfl fun _ hp st => ?_
            simp only [List.set_cons_zero, List.set_cons_succ] at st
            refine XR_a (op_assign rfl) rfl rfl ?_
            refine XR_nil ?_
            refine X_seq ?_
            refine X_reg ?_
            refine XR_a (op_move rfl) rfl rfl ?_
            refine XR_a (op_neq rfl rfl) rfl rfl ?_
            refine XR_as (.bool true) (congrArg Value.bool (decide_eq_true (by simp))) ?_
            refine XR_nil ?_
            refine X_then rfl ?_
            refine X_seq ?_
            refine X_reg ?_
            refine XR_a (op_move rfl) rfl rfl ?_
            refine XR_a (op_assign rfl) rfl rfl ?_
            refine XR_a (op_assign rfl) rfl rfl ?_
            refine XR_nil ?_
            refine X_ret (.cons (.tmp rfl) (.cons (.tmp rfl) .nil)) ?_
            exact ⟨_, rfl, fun _ => ⟨rfl, st.tail.tail.tail.tail⟩, fun h9 => absurd h9 (by decide)⟩
noncomputable def newE (mt : Int) (l : List UInt8) (size : Int) : Nat := if mt < 0 ∨ 2 < mt then 1 else if size < 0 ∨ 65536 < size ∨ (mt = 0 ∧ (l.length : Int) ≠ size) then 5 else if mt = 0 ∨ mt = 2 then 0 else (codesT (bitsB l) 0).1
noncomputable def mvOf (mt : Int) (l : List UInt8) (size : Int) : Mv := if mt = 0 then mvA l else if mt = 2 then mvS l size.toNat else mvP (codesT (bitsB l) 0).2.1 (codesT (bitsB l) 0).2.2.1 (bitsB l) size.toNat
noncomputable def atOf (mt : Int) (l : List UInt8) : Nat := if mt = 0 ∨ mt = 2 then 0 else (codesT (bitsB l) 0).2.2.2
theorem rdnew_spec {B m c : Nat} {mt size : Int} {A : Option Addr} {l : List UInt8} {F : List Res} {h0 : Heap} (st0 : St B h0 h0 F) (hrB : ∀ h', Low B h0 h' → Rd h' A (l.map byteV)) (hl : l.length = m) (hm : m ≤ 1073741824) (hmc : m ≤ c) :
    Ret Try.prog 14 [.int .i64 mt, .slice A m c, .int .i64 size] h0 fun v h' => ∃ w, v = retVal [w, nV (newE mt l size)] ∧ (newE mt l size ≠ 0 → w = .pointer none ∧ St B h0 h' F) ∧
      (newE mt l size = 0 → ∃ pr, ∃ S : Sou B, w = .pointer (some ⟨pr, 0, none⟩) ∧ S.hb = h0 ∧ ∀ gB gE, Giv (mvOf mt l size) (atOf mt l) [] gB gE → St B h0 h' (rdrR S pr gB gE 0 :: F)) := by
  obtain ⟨N, hN⟩ : ∃ N, newE mt l size = N := ⟨_, rfl⟩
  rw [hN]
  unfold newE at hN
  refine ret_of_X Try.func14 rfl rfl fun w0 hw0 => ?_
  simp only [argE, Nat.zero_add, Nat.reduceAdd]
  have st := st0
  refine X_seq ?_
  refine X_reg ?_
  refine XR_a (op_assign rfl) rfl rfl ?_
  refine XR_a (op_assign rfl) rfl rfl ?_
  refine XR_nil ?_
  refine X_seq ?_
  refine X_block ?_
  refine X_seq ?_
  refine X_reg ?_
  refine XR_a (op_move rfl) rfl rfl ?_
  refine XR_a (op_lss rfl rfl) rfl rfl ?_
  refine XR_a (op_move rfl) rfl rfl ?_
  refine XR_if 13 rfl (fun h => ?_) (fun h => ?_)
  · rw [if_pos (by omega)] at hN
    refine XR_no rfl rfl ?_
    refine XR_no rfl rfl ?_
    refine XR_a (op_pick_t rfl rfl) rfl rfl ?_
    refine XR_a (op_assign rfl) rfl rfl ?_
    refine XR_nil ?_
    refine X_then rfl ?_
    refine X_seq ?_
    refine X_reg ?_
    refine XR_a (op_assign rfl) rfl rfl ?_
    refine XR_a (op_assign rfl) rfl rfl ?_
    refine XR_nil ?_
    refine X_ret (.cons (.tmp rfl) (.cons (.tmp rfl) .nil)) ?_
    subst hN
    exact ⟨_, rfl, fun _ => ⟨rfl, st⟩, fun h => absurd h (by decide)⟩
  · refine XR_a (op_move rfl) rfl rfl ?_
    refine XR_a (op_gtr rfl rfl) rfl rfl ?_
    refine XR_a (op_pick_f rfl rfl) rfl rfl ?_
    refine XR_a (op_assign rfl) rfl rfl ?_
    refine XR_nil ?_
    refine X_if rfl (fun h => ?_) (fun h => ?_)
    · rw [if_pos (by omega)] at hN
      refine X_seq ?_
      refine X_reg ?_
      refine XR_a (op_assign rfl) rfl rfl ?_
      refine XR_a (op_assign rfl) rfl rfl ?_
      refine XR_nil ?_
      refine X_ret (.cons (.tmp rfl) (.cons (.tmp rfl) .nil)) ?_
      subst hN
      exact ⟨_, rfl, fun _ => ⟨rfl, st⟩, fun h => absurd h (by decide)⟩
    · rw [if_neg (by omega)] at hN
      refine X_seq ?_
      refine X_reg ?_
      refine XR_a (op_move rfl) rfl rfl ?_
      refine XR_a (op_lss rfl rfl) rfl rfl ?_
      refine XR_a (op_move rfl) rfl rfl ?_
      refine XR_if 20 rfl (fun h => ?_) (fun h => ?_)
      · refine XR_no rfl rfl ?_
        refine XR_no rfl rfl ?_
        refine XR_a (op_pick_t rfl rfl) rfl rfl ?_
        refine XR_a (op_move rfl) rfl rfl ?_
        refine XR_no rfl rfl ?_
        refine XR_no rfl rfl ?_
        refine XR_no rfl rfl ?_
        refine XR_no rfl rfl ?_
        refine XR_no rfl rfl ?_
        refine XR_no rfl rfl ?_
        refine XR_no rfl rfl ?_
        refine XR_no rfl rfl ?_
        refine XR_a (op_pick_t rfl rfl) rfl rfl ?_
        refine XR_a (op_assign rfl) rfl rfl ?_
        refine XR_nil ?_
        refine X_then rfl ?_
        refine X_seq ?_
        refine X_reg ?_
        refine XR_a (op_assign rfl) rfl rfl ?_
        refine XR_a (op_assign rfl) rfl rfl ?_
        refine XR_nil ?_
        refine X_ret (.cons (.tmp rfl) (.cons (.tmp rfl) .nil)) ?_
        rw [if_pos (by omega)] at hN
        subst hN
        exact ⟨_, rfl, fun _ => ⟨rfl, st⟩, fun h => absurd h (by decide)⟩
      · refine XR_a (op_move rfl) rfl rfl ?_
        refine XR_a (op_gtr rfl rfl) rfl rfl ?_
        refine XR_a (op_pick_f rfl rfl) rfl rfl ?_
        refine XR_a (op_move rfl) rfl rfl ?_
        refine XR_if 24 rfl (fun h => ?_) (fun h => ?_)
        · refine XR_no rfl rfl ?_
          refine XR_no rfl rfl ?_
          refine XR_no rfl rfl ?_
          refine XR_no rfl rfl ?_
          refine XR_no rfl rfl ?_
          refine XR_no rfl rfl ?_
          refine XR_no rfl rfl ?_
          refine XR_no rfl rfl ?_
          refine XR_a (op_pick_t rfl rfl) rfl rfl ?_
          refine XR_a (op_assign rfl) rfl rfl ?_
          refine XR_nil ?_
          refine X_then rfl ?_
          refine X_seq ?_
          refine X_reg ?_
          refine XR_a (op_assign rfl) rfl rfl ?_
          refine XR_a (op_assign rfl) rfl rfl ?_
          refine XR_nil ?_
          refine X_ret (.cons (.tmp rfl) (.cons (.tmp rfl) .nil)) ?_
          rw [if_pos (by omega)] at hN
          subst hN
          exact ⟨_, rfl, fun _ => ⟨rfl, st⟩, fun h => absurd h (by decide)⟩
        · refine XR_a (op_move rfl) rfl rfl ?_
          refine XR_a (op_eql rfl rfl) rfl rfl ?_
          refine XR_a (op_move rfl) rfl rfl ?_
          refine XR_if 27 rfl (fun h => ?_) (fun h => ?_)
          · refine XR_a (op_move rfl) rfl rfl ?_
            refine XR_a (op_len rfl rfl rfl) rfl rfl ?_
            refine XR_a (op_move rfl) rfl rfl ?_
            refine XR_a (op_neq rfl rfl) rfl rfl ?_
            refine XR_a (op_pick_t rfl rfl) rfl rfl ?_
            refine XR_a (op_pick_f rfl rfl) rfl rfl ?_
            refine XR_a (op_assign rfl) rfl rfl ?_
            refine XR_nil ?_
            refine X_if rfl (fun h => ?_) (fun h => ?_)
            · refine X_seq ?_
              refine X_reg ?_
              refine XR_a (op_assign rfl) rfl rfl ?_
              refine XR_a (op_assign rfl) rfl rfl ?_
              refine XR_nil ?_
              refine X_ret (.cons (.tmp rfl) (.cons (.tmp rfl) .nil)) ?_
              rw [if_pos (by omega)] at hN
              subst hN
              exact ⟨_, rfl, fun _ => ⟨rfl, st⟩, fun h => absurd h (by decide)⟩
            · refine X_skip ?_
              refine X_blk ?_
              refine X_seq ?_
              refine X_seq ?_
              refine X_reg ?_
              refine XR_a (op_move rfl) rfl rfl ?_
              refine XR_nil ?_
              refine X_block ?_
              refine X_seq ?_
              refine X_reg ?_
              refine XR_a (op_eql rfl rfl) rfl rfl ?_
              refine XR_a (op_assign rfl) rfl rfl ?_
              refine XR_nil ?_
              refine X_if rfl (fun h => ?_) (fun h => ?_)
              · have hmt : mt = 0 := by omega
                subst hmt
                rw [if_neg (by omega), if_pos (by omega)] at hN
                subst hN
                refine X_seq ?_
                refine X_reg ?_
                refine XR_a (op_move rfl) rfl rfl ?_
                refine XR_a (op_build (ps := [(0, .slice A m c)]) (cs := #[.slice A m c]) rfl rfl) rfl rfl ?_
                refine XR_wa (opl_bx (cs := [.slice A m c]) rfl rfl) rfl rfl rfl ?_
                rintro _ hp ⟨ps, rfl, hnew⟩
                replace st := st.new hnew
                refine XR_a (op_iface rfl (by kernel_rfl)) rfl rfl ?_
                refine XR_a (op_build (ps := [(0, .iface 81 (.pointer (some ⟨ps, 0, none⟩)))]) (cs := #[.iface 81 (.pointer (some ⟨ps, 0, none⟩)), .slice none 0 0, nV 0, .bool false, nV 0]) rfl rfl) rfl rfl ?_
                refine XR_wa (opl_bx (cs := [.iface 81 (.pointer (some ⟨ps, 0, none⟩)), .slice none 0 0, nV 0, .bool false, nV 0]) rfl rfl) rfl rfl rfl ?_
                rintro _ hp ⟨pr, rfl, hnew⟩
                replace st := st.new hnew
                refine XR_a (op_assign rfl) rfl rfl ?_
                refine XR_a (op_assign rfl) rfl rfl ?_
                refine XR_nil ?_
                refine X_ret (.cons (.tmp rfl) (.cons (.tmp rfl) .nil)) ?_
                refine ⟨_, rfl, fun h => absurd rfl h, fun _ => ⟨pr, souA B h0 ps m c A l hrB hl (by omega), rfl, rfl, fun gB gE g => ?_⟩⟩
                refine St.unrdr (s := ⟨0, [], false, 0, .slice none 0 0⟩) ?_ (.inr ⟨rfl, rfl, rfl, g⟩) (Nat.zero_le _) (g.pre (mvA_ok l) rfl).2
                exact (st.nilrow 5 1).perm (List.Perm.swap _ _ _)
              · refine X_seq ?_
                refine X_reg ?_
                refine XR_a (op_eql rfl rfl) rfl rfl ?_
                refine XR_a (op_assign rfl) rfl rfl ?_
                refine XR_nil ?_
                refine X_if rfl (fun h => ?_) (fun h => ?_)
                · have hmt : mt = 2 := by omega
                  subst hmt
                  rw [if_neg (by omega), if_pos (by omega)] at hN
                  subst hN
                  obtain ⟨sz, rfl⟩ : ∃ s : Nat, size = s := ⟨size.toNat, by omega⟩
                  refine X_seq ?_
                  refine X_reg ?_
                  refine XR_a (op_move rfl) rfl rfl ?_
                  refine XR_wa (opl_call (fnew_spec) rfl (by kernel_rfl)) rfl rfl rfl ?_
                  rintro _ hp ⟨pf, rfl, st1⟩
                  replace st := st.join st1
                  simp only [List.cons_append, List.nil_append] at st
                  refine XR_a (op_move rfl) rfl rfl ?_
                  refine XR_a (op_build (ps := [(0, .pointer (some ⟨pf, 0, none⟩)), (1, nV sz)]) (cs := #[.pointer (some ⟨pf, 0, none⟩), nV sz]) rfl rfl) rfl rfl ?_
                  refine XR_wa (opl_bx (cs := [.pointer (some ⟨pf, 0, none⟩), nV sz]) rfl rfl) rfl rfl rfl ?_
                  rintro _ hp ⟨ps, rfl, hnew⟩
                  replace st := st.new hnew
                  refine XR_a (op_iface rfl (by kernel_rfl)) rfl rfl ?_
                  refine XR_a (op_build (ps := [(0, .iface 88 (.pointer (some ⟨ps, 0, none⟩)))]) (cs := #[.iface 88 (.pointer (some ⟨ps, 0, none⟩)), .slice none 0 0, nV 0, .bool false, nV 0]) rfl rfl) rfl rfl ?_
                  refine XR_wa (opl_bx (cs := [.iface 88 (.pointer (some ⟨ps, 0, none⟩)), .slice none 0 0, nV 0, .bool false, nV 0]) rfl rfl) rfl rfl rfl ?_
                  rintro _ hp ⟨pr, rfl, hnew⟩
                  replace st := st.new hnew
                  refine XR_a (op_assign rfl) rfl rfl ?_
                  refine XR_a (op_assign rfl) rfl rfl ?_
                  refine XR_nil ?_
                  refine X_ret (.cons (.tmp rfl) (.cons (.tmp rfl) .nil)) ?_
                  refine ⟨_, rfl, fun h => absurd rfl h, fun _ => ⟨pr, souS B h0 ps pf m c sz A l hrB hl hm hmc (by omega), rfl, rfl, fun gB gE g => ?_⟩⟩
                  refine St.unrdr (s := ⟨0, [], false, 0, .slice none 0 0⟩) ?_ (.inr ⟨rfl, rfl, ⟨Nat.zero_le _, Nat.zero_le _⟩, g⟩) (Nat.zero_le _) (g.pre mvS_ok ⟨Nat.zero_le _, Nat.zero_le _⟩).2
                  have g1 := St.star.2 (St.reF [_, _, _] 3 st [2, 1, 0] (by decide))
                  exact St.reF [_, _, _] 3 (g1.nilrow 5 1) [2, 0, 1] (by decide)
                · have hmt : mt = 1 := by omega
                  subst hmt
                  rw [if_neg (by omega), if_neg (by omega)] at hN
                  obtain ⟨sz, rfl⟩ : ∃ s : Nat, size = s := ⟨size.toNat, by omega⟩
                  have hok := codesT_ok (bs := bitsB l) (a := 0)
                  refine X_skip ?_
                  refine X_blk ?_
                  refine X_seq ?_
                  refine X_reg ?_
                  refine XR_a (op_move rfl) rfl rfl ?_
                  refine XR_a (op_move rfl) rfl rfl ?_
                  refine XR_wa (opl_call (unpack_spec st hrB hl hm) rfl (by kernel_rfl)) rfl rfl rfl ?_
                  rintro _ hp ⟨w, rfl, hbad, hgood⟩
                  rw [hN] at hbad hgood ⊢
                  refine XR_a (op_move rfl) rfl rfl ?_
                  refine XR_a (op_extract rfl rfl) rfl rfl ?_
                  refine XR_a (op_extract rfl rfl) rfl rfl ?_
                  refine XR_a (op_assign rfl) rfl rfl ?_
                  refine XR_a (op_assign rfl) rfl rfl ?_
                  refine XR_nil ?_
                  refine X_seq ?_
                  refine X_seq ?_
                  refine X_reg ?_
                  refine XR_a (op_move rfl) rfl rfl ?_
                  refine XR_a (op_neq rfl rfl) rfl rfl ?_
                  refine XR_nil ?_
                  refine X_if rfl (fun h => ?_) (fun h => ?_)
                  · refine X_seq ?_
                    refine X_reg ?_
                    refine XR_a (op_move rfl) rfl rfl ?_
                    refine XR_a (op_assign rfl) rfl rfl ?_
                    refine XR_a (op_assign rfl) rfl rfl ?_
                    refine XR_nil ?_
                    refine X_ret (.cons (.tmp rfl) (.cons (.tmp rfl) .nil)) ?_
                    exact ⟨_, rfl, fun h9 => ⟨rfl, (hbad h9).2⟩, fun h9 => by omega⟩
                  · have hN0 : N = 0 := by omega
                    obtain ⟨hat, pk, q, t1, t2, rfl, st⟩ := hgood hN0
                    obtain ⟨oka, okb, na, nb⟩ := hok (by omega)
                    refine X_skip ?_
                    refine X_seq ?_
                    refine X_reg ?_
                    refine XR_a (op_move rfl) rfl rfl ?_
                    refine XR_a (op_iface rfl (by kernel_rfl)) rfl rfl ?_
                    refine XR_a (op_build (ps := [(0, .iface 93 (.pointer (some ⟨pk, 0, none⟩)))]) (cs := #[.iface 93 (.pointer (some ⟨pk, 0, none⟩)), .slice none 0 0, nV 0, .bool false, nV 0]) rfl rfl) rfl rfl ?_
                    refine XR_wa (opl_bx (cs := [.iface 93 (.pointer (some ⟨pk, 0, none⟩)), .slice none 0 0, nV 0, .bool false, nV 0]) rfl rfl) rfl rfl rfl ?_
                    rintro _ hp ⟨pr, rfl, hnew⟩
                    replace st := st.new hnew
                    refine XR_a (op_assign rfl) rfl rfl ?_
                    refine XR_a (op_assign rfl) rfl rfl ?_
                    refine XR_nil ?_
                    refine X_ret (.cons (.tmp rfl) (.cons (.tmp rfl) .nil)) ?_
                    subst hN0
                    have hat : (codesT (bitsB l) 0).2.2.2 ≤ (bitsB l).length := by rw [bitsB_length, hl]; exact hat
                    refine ⟨_, rfl, fun h => absurd rfl h, fun _ => ⟨pr, souP B h0 pk q t1 t2 m c sz A l _ _ oka okb na nb hrB hl hm (by omega), rfl, rfl, fun gB gE g => ?_⟩⟩
                    refine St.unrdr (s := ⟨(codesT (bitsB l) 0).2.2.2, [], false, 0, .slice none 0 0⟩) ?_ (.inr ⟨rfl, rfl, ⟨hat, Nat.zero_le _⟩, g⟩) (Nat.zero_le _) (g.pre (mvP_ok oka okb) ⟨hat, Nat.zero_le _⟩).2
                    have g1 := St.star.2 (St.reF [_, _, _, _, _] 5 st [3, 4, 1, 2, 0] (by decide))
                    have g2 := St.star.2 (St.reF [_, _, _, _] 4 g1 [2, 0, 1, 3] (by decide))
                    have g3 := St.star.2 (St.reF [_, _, _] 3 g2 [1, 0, 2] (by decide))
                    exact St.reF [_, _, _] 3 (g3.nilrow 5 1) [2, 0, 1] (by decide)
          · refine XR_no rfl rfl ?_
            refine XR_no rfl rfl ?_
            refine XR_no rfl rfl ?_
            refine XR_no rfl rfl ?_
            refine XR_a (op_pick_f rfl rfl) rfl rfl ?_
            refine XR_a (op_pick_f rfl rfl) rfl rfl ?_
            refine XR_a (op_assign rfl) rfl rfl ?_
            refine XR_nil ?_
            refine X_else rfl ?_
            refine X_skip ?_
            refine X_blk ?_
            refine X_seq ?_
            refine X_seq ?_
            refine X_reg ?_
            refine XR_a (op_move rfl) rfl rfl ?_
            refine XR_nil ?_
            refine X_block ?_
            refine X_seq ?_
            refine X_reg ?_
            refine XR_a (op_eql rfl rfl) rfl rfl ?_
            refine XR_a (op_assign rfl) rfl rfl ?_
            refine XR_nil ?_
            refine X_if rfl (fun h => ?_) (fun h => ?_)
            · have hmt : mt = 0 := by omega
              subst hmt
              rw [if_neg (by omega), if_pos (by omega)] at hN
              subst hN
              refine X_seq ?_
              refine X_reg ?_
              refine XR_a (op_move rfl) rfl rfl ?_
              refine XR_a (op_build (ps := [(0, .slice A m c)]) (cs := #[.slice A m c]) rfl rfl) rfl rfl ?_
              refine XR_wa (opl_bx (cs := [.slice A m c]) rfl rfl) rfl rfl rfl ?_
              rintro _ hp ⟨ps, rfl, hnew⟩
              replace st := st.new hnew
              refine XR_a (op_iface rfl (by kernel_rfl)) rfl rfl ?_
              refine XR_a (op_build (ps := [(0, .iface 81 (.pointer (some ⟨ps, 0, none⟩)))]) (cs := #[.iface 81 (.pointer (some ⟨ps, 0, none⟩)), .slice none 0 0, nV 0, .bool false, nV 0]) rfl rfl) rfl rfl ?_
              refine XR_wa (opl_bx (cs := [.iface 81 (.pointer (some ⟨ps, 0, none⟩)), .slice none 0 0, nV 0, .bool false, nV 0]) rfl rfl) rfl rfl rfl ?_
              rintro _ hp ⟨pr, rfl, hnew⟩
              replace st := st.new hnew
              refine XR_a (op_assign rfl) rfl rfl ?_
              refine XR_a (op_assign rfl) rfl rfl ?_
              refine XR_nil ?_
              refine X_ret (.cons (.tmp rfl) (.cons (.tmp rfl) .nil)) ?_
              refine ⟨_, rfl, fun h => absurd rfl h, fun _ => ⟨pr, souA B h0 ps m c A l hrB hl (by omega), rfl, rfl, fun gB gE g => ?_⟩⟩
              refine St.unrdr (s := ⟨0, [], false, 0, .slice none 0 0⟩) ?_ (.inr ⟨rfl, rfl, rfl, g⟩) (Nat.zero_le _) (g.pre (mvA_ok l) rfl).2
              exact (st.nilrow 5 1).perm (List.Perm.swap _ _ _)
            · refine X_seq ?_
              refine X_reg ?_
              refine XR_a (op_eql rfl rfl) rfl rfl ?_
              refine XR_a (op_assign rfl) rfl rfl ?_
              refine XR_nil ?_
              refine X_if rfl (fun h => ?_) (fun h => ?_)
              · have hmt : mt = 2 := by omega
                subst hmt
                rw [if_neg (by omega), if_pos (by omega)] at hN
                subst hN
                obtain ⟨sz, rfl⟩ : ∃ s : Nat, size = s := ⟨size.toNat, by omega⟩
                refine X_seq ?_
                refine X_reg ?_
                refine XR_a (op_move rfl) rfl rfl ?_
                refine XR_wa (opl_call (fnew_spec) rfl (by kernel_rfl)) rfl rfl rfl ?_
                rintro _ hp ⟨pf, rfl, st1⟩
                replace st := st.join st1
                simp only [List.cons_append, List.nil_append] at st
                refine XR_a (op_move rfl) rfl rfl ?_
                refine XR_a (op_build (ps := [(0, .pointer (some ⟨pf, 0, none⟩)), (1, nV sz)]) (cs := #[.pointer (some ⟨pf, 0, none⟩), nV sz]) rfl rfl) rfl rfl ?_
                refine XR_wa (opl_bx (cs := [.pointer (some ⟨pf, 0, none⟩), nV sz]) rfl rfl) rfl rfl rfl ?_
                rintro _ hp ⟨ps, rfl, hnew⟩
                replace st := st.new hnew
                refine XR_a (op_iface rfl (by kernel_rfl)) rfl rfl ?_
                refine XR_a (op_build (ps := [(0, .iface 88 (.pointer (some ⟨ps, 0, none⟩)))]) (cs := #[.iface 88 (.pointer (some ⟨ps, 0, none⟩)), .slice none 0 0, nV 0, .bool false, nV 0]) rfl rfl) rfl rfl ?_
                refine XR_wa (opl_bx (cs := [.iface 88 (.pointer (some ⟨ps, 0, none⟩)), .slice none 0 0, nV 0, .bool false, nV 0]) rfl rfl) rfl rfl rfl ?_
                rintro _ hp ⟨pr, rfl, hnew⟩
                replace st := st.new hnew
                refine XR_a (op_assign rfl) rfl rfl ?_
                refine XR_a (op_assign rfl) rfl rfl ?_
                refine XR_nil ?_
                refine X_ret (.cons (.tmp rfl) (.cons (.tmp rfl) .nil)) ?_
                refine ⟨_, rfl, fun h => absurd rfl h, fun _ => ⟨pr, souS B h0 ps pf m c sz A l hrB hl hm hmc (by omega), rfl, rfl, fun gB gE g => ?_⟩⟩
                refine St.unrdr (s := ⟨0, [], false, 0, .slice none 0 0⟩) ?_ (.inr ⟨rfl, rfl, ⟨Nat.zero_le _, Nat.zero_le _⟩, g⟩) (Nat.zero_le _) (g.pre mvS_ok ⟨Nat.zero_le _, Nat.zero_le _⟩).2
                have g1 := St.star.2 (St.reF [_, _, _] 3 st [2, 1, 0] (by decide))
                exact St.reF [_, _, _] 3 (g1.nilrow 5 1) [2, 0, 1] (by decide)
              · have hmt : mt = 1 := by omega
                subst hmt
                rw [if_neg (by omega), if_neg (by omega)] at hN
                obtain ⟨sz, rfl⟩ : ∃ s : Nat, size = s := ⟨size.toNat, by omega⟩
                have hok := codesT_ok (bs := bitsB l) (a := 0)
                refine X_skip ?_
                refine X_blk ?_
                refine X_seq ?_
                refine X_reg ?_
                refine XR_a (op_move rfl) rfl rfl ?_
                refine XR_a (op_move rfl) rfl rfl ?_
                refine XR_wa (opl_call (unpack_spec st hrB hl hm) rfl (by kernel_rfl)) rfl rfl rfl ?_
                rintro _ hp ⟨w, rfl, hbad, hgood⟩
                rw [hN] at hbad hgood ⊢
                refine XR_a (op_move rfl) rfl rfl ?_
                refine XR_a (op_extract rfl rfl) rfl rfl ?_
                refine XR_a (op_extract rfl rfl) rfl rfl ?_
                refine XR_a (op_assign rfl) rfl rfl ?_
                refine XR_a (op_assign rfl) rfl rfl ?_
                refine XR_nil ?_
                refine X_seq ?_
                refine X_seq ?_
                refine X_reg ?_
                refine XR_a (op_move rfl) rfl rfl ?_
                refine XR_a (op_neq rfl rfl) rfl rfl ?_
                refine XR_nil ?_
                refine X_if rfl (fun h => ?_) (fun h => ?_)
                · refine X_seq ?_
                  refine X_reg ?_
                  refine XR_a (op_move rfl) rfl rfl ?_
                  refine XR_a (op_assign rfl) rfl rfl ?_
                  refine XR_a (op_assign rfl) rfl rfl ?_
                  refine XR_nil ?_
                  refine X_ret (.cons (.tmp rfl) (.cons (.tmp rfl) .nil)) ?_
                  exact ⟨_, rfl, fun h9 => ⟨rfl, (hbad h9).2⟩, fun h9 => by omega⟩
                · have hN0 : N = 0 := by omega
                  obtain ⟨hat, pk, q, t1, t2, rfl, st⟩ := hgood hN0
                  obtain ⟨oka, okb, na, nb⟩ := hok (by omega)
                  refine X_skip ?_
                  refine X_seq ?_
                  refine X_reg ?_
                  refine XR_a (op_move rfl) rfl rfl ?_
                  refine XR_a (op_iface rfl (by kernel_rfl)) rfl rfl ?_
                  refine XR_a (op_build (ps := [(0, .iface 93 (.pointer (some ⟨pk, 0, none⟩)))]) (cs := #[.iface 93 (.pointer (some ⟨pk, 0, none⟩)), .slice none 0 0, nV 0, .bool false, nV 0]) rfl rfl) rfl rfl ?_
                  refine XR_wa (opl_bx (cs := [.iface 93 (.pointer (some ⟨pk, 0, none⟩)), .slice none 0 0, nV 0, .bool false, nV 0]) rfl rfl) rfl rfl rfl ?_
                  rintro _ hp ⟨pr, rfl, hnew⟩
                  replace st := st.new hnew
                  refine XR_a (op_assign rfl) rfl rfl ?_
                  refine XR_a (op_assign rfl) rfl rfl ?_
                  refine XR_nil ?_
                  refine X_ret (.cons (.tmp rfl) (.cons (.tmp rfl) .nil)) ?_
                  subst hN0
                  have hat : (codesT (bitsB l) 0).2.2.2 ≤ (bitsB l).length := by rw [bitsB_length, hl]; exact hat
                  refine ⟨_, rfl, fun h => absurd rfl h, fun _ => ⟨pr, souP B h0 pk q t1 t2 m c sz A l _ _ oka okb na nb hrB hl hm (by omega), rfl, rfl, fun gB gE g => ?_⟩⟩
                  refine St.unrdr (s := ⟨(codesT (bitsB l) 0).2.2.2, [], false, 0, .slice none 0 0⟩) ?_ (.inr ⟨rfl, rfl, ⟨hat, Nat.zero_le _⟩, g⟩) (Nat.zero_le _) (g.pre (mvP_ok oka okb) ⟨hat, Nat.zero_le _⟩).2
                  have g1 := St.star.2 (St.reF [_, _, _, _, _] 5 st [3, 4, 1, 2, 0] (by decide))
                  have g2 := St.star.2 (St.reF [_, _, _, _] 4 g1 [2, 0, 1, 3] (by decide))
                  have g3 := St.star.2 (St.reF [_, _, _] 3 g2 [1, 0, 2] (by decide))
                  exact St.reF [_, _, _] 3 (g3.nilrow 5 1) [2, 0, 1] (by decide)
end Go.Bn
end

section
set_option linter.unusedVariables false
set_option linter.unusedSimpArgs false
set_option maxHeartbeats 4000000
set_option maxRecDepth 20000
namespace Go.Bn
open Go Proofs
theorem pieces36_ref {m c size : Nat} {A : Option Addr} {l : List UInt8} {h0 : Heap} (hr : Rd h0 A (l.map byteV)) (hl : l.length = m) (hm : m ≤ 131072) (hmc : m ≤ c) (hs : size ≤ 65536) :
    Ret Try.prog 45 [.slice A m c, nV size] h0 fun v h' => ∃ w gE gB, v = .agg (gC 0 w gE).toArray ∧ Giv (mvS l size) 0 [] gB gE ∧ St h0.size h0 h' [row 5 1 w (gB.map byteV)] := by
  obtain ⟨mv, hmv⟩ : ∃ mv, mvS l size = mv := ⟨_, rfl⟩
  rw [hmv]
  refine ret_of_X Try.func45 rfl rfl fun w0 hw0 => ?_
  simp only [argE, Nat.zero_add, Nat.reduceAdd]
  have st := St.start h0
  refine X_seq ?_
  refine X_reg ?_
  refine XR_wa (opl_new rfl) rfl rfl rfl ?_
  rintro _ hp ⟨p4, rfl, hnew⟩
  replace st := st.new hnew
  refine XR_nil ?_
  refine X_seq ?_
  refine X_reg ?_
  refine XR_wa (opl_new rfl) rfl rfl rfl ?_
  rintro _ hp ⟨p5, rfl, hnew⟩
  replace st := st.new hnew
  replace st : St h0.size h0 hp [pt p5 30 (gC 0 (.slice none 0 0) 0), pt p4 30 (gC 0 (.slice none 0 0) 0)] := st
  refine XR_nil ?_
  refine X_seq ?_
  refine X_reg ?_
  refine XR_a (op_assign rfl) rfl rfl ?_
  refine XR_nil ?_
  refine X_block ?_
  replace st := (st.nilrow 5 1).re 3 [1, 0, 2] (by decide)
  simp only [List.map_cons, List.map_nil, getR] at st
  refine X_loop (fun s => m - s.1) (fun s => [(0, .slice A m c), (1, nV size), (4, .pointer (some ⟨p4, 0, none⟩)), (5, .pointer (some ⟨p5, 0, none⟩)), (6, nV s.1)])
    (fun (s : Nat × List UInt8 × Value) hp => s.1 ≤ m ∧ s.2.1.length ≤ size ∧ (∀ gB gE, Giv mv s.1 s.2.1 gB gE → Giv mv 0 [] gB gE) ∧
      St h0.size h0 hp [pt p5 30 (gC 0 s.2.2 0), row 5 1 s.2.2 (s.2.1.map byteV), pt p4 30 (gC 0 (.slice none 0 0) 0)])
    (0, [], _) (.cons rfl (.cons rfl (.cons rfl (.cons rfl (.cons rfl (.nil _)))))) ⟨Nat.zero_le _, Nat.zero_le _, fun _ _ g => g, st⟩ ?_
  clear st
  rintro ⟨a, out, v⟩ hp ⟨han, hos, hgv, st⟩
  simp only at han hos hgv st ⊢
  obtain ⟨A9, n9, c9, rfl, hl9, _⟩ := st.row 1 rfl
  have hl9 : out.length = n9 := by simpa using hl9
  have hM : mv a out = mvS l size a out := by rw [hmv]
  unfold mvS at hM
  rw [hl] at hM
  have hover : ∀ e, mv a out = (a, out, true, e) → Giv mv 0 [] out e := fun e he => by
    have := hgv _ _ (Giv.over (mv := mv) (a := a) (out := out) (by rw [he]))
    rwa [he] at this
  refine X_block ?_
  refine X_seq ?_
  refine X_seq ?_
  refine X_reg ?_
  refine XR_a (op_move rfl) rfl rfl ?_
  refine XR_a (op_len rfl rfl rfl) rfl rfl ?_
  refine XR_a (op_move rfl) rfl rfl ?_
  first | refine XR_a (op_subN rfl rfl (by omega) (by simp only [inK]; omega)) rfl rfl ?_ | refine XR_a (op_subI rfl rfl (by simp only [inK]; omega)) rfl rfl ?_ | refine XR_a (op_sub rfl rfl) rfl rfl ?_
  refine XR_a (op_lss rfl rfl) rfl rfl ?_
  refine XR_nil ?_
  refine X_if rfl (fun h => ?_) (fun h => ?_)
  · rw [if_pos (by omega)] at hM
    have hgf := hover _ hM
    refine X_seq ?_
    refine X_reg ?_
    first | refine XR_a (op_field0 rfl rfl) rfl rfl ?_ | refine XR_a (op_fieldn rfl rfl) rfl rfl ?_
    refine XR_wn (opl_store_pt st 0 rfl rfl rfl rfl rfl (rfl)) rfl rfl fun _ hp st => ?_
    simp only [List.set_cons_zero, List.set_cons_succ] at st
    refine XR_nil ?_
    refine X_seq ?_
    refine X_reg ?_
    refine XR_a (op_ldA (vs := gC 0 (.slice A9 n9 c9) 2) (st.cells 0 rfl) rfl rfl rfl rfl) rfl rfl ?_
    refine XR_wn (opl_store_whole (us := gC 0 (.slice A9 n9 c9) 2) st 2 rfl rfl rfl rfl rfl (gC_one rfl) rfl) rfl rfl fun _ hp st => ?_
    simp only [List.set_cons_zero, List.set_cons_succ] at st
    refine XR_nil ?_
    refine X_ret (.cons (RV_agg (vs := gC _ _ _) rfl rfl rfl (st.cells 2 rfl)) .nil) ?_
    exact ⟨_, _, out, rfl, hgf, (st.re 3 [1, 0, 2] (by decide)).keep 1⟩
  · rw [if_neg (by omega)] at hM
    have h2 : a + 2 ≤ l.length := by omega
    obtain ⟨g, o, rfl, hc⟩ := (hr.ext st.low).at_ (by rw [List.length_map]; omega)
    have hca := hc a (byteV l[a]) (by simp [show a < l.length by omega])
    have hcb := hc (a + 1) (byteV l[a + 1]) (by simp [show a + 1 < l.length by omega])
    have hn2 := leV2 (l := l) (a := a) (by omega)
    have xa := (l[a]).toNat_lt
    have xb := (l[a + 1]).toNat_lt
    have hcut := fun q => (hr.ext st.low).cut (a + 2) 1 c q (by intro hh; simp; omega)
    simp only [Nat.mul_one, ← List.map_drop, ← List.map_take] at hcut
    generalize leV ((l.drop a).take 2) = n at *
    generalize l[a] = ya at *
    generalize l[a + 1] = yb at *
    refine X_skip ?_
    refine X_seq ?_
    refine X_draw byKind (by kernel_rfl) (by kernel_rfl) ?_
    refine XR_a (op_move rfl) rfl rfl ?_
    refine XR_a (op_move rfl) rfl rfl ?_
    first | refine XR_a (op_index1 rfl rfl rfl (by omega)) rfl rfl ?_ | refine XR_a (op_index rfl rfl rfl (by omega)) rfl rfl ?_
    refine XR_a (op_ld (hca) rfl rfl rfl) rfl rfl ?_
    first | refine XR_a (op_convI rfl rfl (by simp only [inK]; omega)) rfl rfl ?_ | refine XR_a (op_conv rfl rfl) rfl rfl ?_
    refine XR_a (op_move rfl) rfl rfl ?_
    refine XR_a (op_move rfl) rfl rfl ?_
    first | refine XR_a (op_addN (n := 1) rfl rfl (by simp only [inK]; omega)) rfl rfl ?_ | refine XR_a (op_addI rfl rfl (by simp only [inK]; omega)) rfl rfl ?_ | refine XR_a (op_add rfl rfl) rfl rfl ?_
    first | refine XR_a (op_index1 rfl rfl rfl (by omega)) rfl rfl ?_ | refine XR_a (op_index rfl rfl rfl (by omega)) rfl rfl ?_
    refine XR_a (op_ld (hcb) rfl rfl rfl) rfl rfl ?_
    first | refine XR_a (op_convI rfl rfl (by simp only [inK]; omega)) rfl rfl ?_ | refine XR_a (op_conv rfl rfl) rfl rfl ?_
    refine XR_a (op_mulN (m := 256) rfl rfl (by simp only [inK]; omega)) rfl rfl ?_
    first | refine XR_a (op_addN rfl rfl (by simp only [inK]; omega)) rfl rfl ?_ | refine XR_a (op_addI rfl rfl (by simp only [inK]; omega)) rfl rfl ?_ | refine XR_a (op_add rfl rfl) rfl rfl ?_
    rw [← hn2]
    refine XR_a (op_assign rfl) rfl rfl ?_
    refine XR_nil ?_
    refine X_seq ?_
    refine X_reg ?_
    refine XR_a (op_move rfl) rfl rfl ?_
    first | refine XR_a (op_addN (n := 2) rfl rfl (by simp only [inK]; omega)) rfl rfl ?_ | refine XR_a (op_addI rfl rfl (by simp only [inK]; omega)) rfl rfl ?_ | refine XR_a (op_add rfl rfl) rfl rfl ?_
    refine XR_a (op_assign rfl) rfl rfl ?_
    refine XR_nil ?_
    refine X_seq ?_
    refine X_seq ?_
    refine X_reg ?_
    refine XR_a (op_move rfl) rfl rfl ?_
    refine XR_a (op_move rfl) rfl rfl ?_
    refine XR_a (op_len rfl rfl rfl) rfl rfl ?_
    refine XR_a (op_move rfl) rfl rfl ?_
    first | refine XR_a (op_subN rfl rfl (by omega) (by simp only [inK]; omega)) rfl rfl ?_ | refine XR_a (op_subI rfl rfl (by simp only [inK]; omega)) rfl rfl ?_ | refine XR_a (op_sub rfl rfl) rfl rfl ?_
    refine XR_a (op_gtr rfl rfl) rfl rfl ?_
    refine XR_nil ?_
    refine X_if rfl (fun h => ?_) (fun h => ?_)
    · rw [if_pos (by omega)] at hM
      have hgf := hover _ hM
      refine X_seq ?_
      refine X_reg ?_
      first | refine XR_a (op_field0 rfl rfl) rfl rfl ?_ | refine XR_a (op_fieldn rfl rfl) rfl rfl ?_
      refine XR_wn (opl_store_pt st 0 rfl rfl rfl rfl rfl (rfl)) rfl rfl fun _ hp st => ?_
      simp only [List.set_cons_zero, List.set_cons_succ] at st
      refine XR_nil ?_
      refine X_seq ?_
      refine X_reg ?_
      refine XR_a (op_ldA (vs := gC 0 (.slice A9 n9 c9) 2) (st.cells 0 rfl) rfl rfl rfl rfl) rfl rfl ?_
      refine XR_wn (opl_store_whole (us := gC 0 (.slice A9 n9 c9) 2) st 2 rfl rfl rfl rfl rfl (gC_one rfl) rfl) rfl rfl fun _ hp st => ?_
      simp only [List.set_cons_zero, List.set_cons_succ] at st
      refine XR_nil ?_
      refine X_ret (.cons (RV_agg (vs := gC _ _ _) rfl rfl rfl (st.cells 2 rfl)) .nil) ?_
      exact ⟨_, _, out, rfl, hgf, (st.re 3 [1, 0, 2] (by decide)).keep 1⟩
    · rw [if_neg (by omega)] at hM
      refine X_skip ?_
      refine X_seq ?_
      refine X_seq ?_
      refine X_reg ?_
      refine XR_a (op_move rfl) rfl rfl ?_
      refine XR_a (op_move rfl) rfl rfl ?_
      first | refine XR_a (op_field0 rfl rfl) rfl rfl ?_ | refine XR_a (op_fieldn rfl rfl) rfl rfl ?_
      refine XR_a (op_ld (st.cell 0 (i := 1) rfl rfl) rfl rfl rfl) rfl rfl ?_
      refine XR_a (op_len rfl rfl rfl) rfl rfl ?_
      refine XR_a (op_subI rfl rfl (by simp only [inK]; omega)) rfl rfl ?_
      refine XR_a (op_gtr rfl rfl) rfl rfl ?_
      refine XR_nil ?_
      refine X_if rfl (fun h => ?_) (fun h => ?_)
      · rw [if_pos (by omega)] at hM
        have hgf := hover _ hM
        refine X_seq ?_
        refine X_reg ?_
        first | refine XR_a (op_field0 rfl rfl) rfl rfl ?_ | refine XR_a (op_fieldn rfl rfl) rfl rfl ?_
        refine XR_wn (opl_store_pt st 0 rfl rfl rfl rfl rfl (rfl)) rfl rfl fun _ hp st => ?_
        simp only [List.set_cons_zero, List.set_cons_succ] at st
        refine XR_nil ?_
        refine X_seq ?_
        refine X_reg ?_
        refine XR_a (op_ldA (vs := gC 0 (.slice A9 n9 c9) 5) (st.cells 0 rfl) rfl rfl rfl rfl) rfl rfl ?_
        refine XR_wn (opl_store_whole (us := gC 0 (.slice A9 n9 c9) 5) st 2 rfl rfl rfl rfl rfl (gC_one rfl) rfl) rfl rfl fun _ hp st => ?_
        simp only [List.set_cons_zero, List.set_cons_succ] at st
        refine XR_nil ?_
        refine X_ret (.cons (RV_agg (vs := gC _ _ _) rfl rfl rfl (st.cells 2 rfl)) .nil) ?_
        exact ⟨_, _, out, rfl, hgf, (st.re 3 [1, 0, 2] (by decide)).keep 1⟩
      · rw [if_neg (by omega)] at hM
        refine X_skip ?_
        refine X_seq ?_
        refine X_seq ?_
        refine X_reg ?_
        refine XR_a (op_move rfl) rfl rfl ?_
        refine XR_a (op_eql rfl rfl) rfl rfl ?_
        refine XR_nil ?_
        refine X_if rfl (fun h => ?_) (fun h => ?_)
        · rw [if_neg (by omega)] at hM
          refine X_seq ?_
          refine X_seq ?_
          refine X_reg ?_
          refine XR_a (op_move rfl) rfl rfl ?_
          refine XR_a (op_move rfl) rfl rfl ?_
          refine XR_a (op_len rfl rfl rfl) rfl rfl ?_
          refine XR_a (op_lss rfl rfl) rfl rfl ?_
          refine XR_nil ?_
          refine X_if rfl (fun h => ?_) (fun h => ?_)
          · rw [if_pos (by omega)] at hM
            have hgf := hover _ hM
            refine X_reg ?_
            first | refine XR_a (op_field0 rfl rfl) rfl rfl ?_ | refine XR_a (op_fieldn rfl rfl) rfl rfl ?_
            refine XR_wn (opl_store_pt st 0 rfl rfl rfl rfl rfl (rfl)) rfl rfl fun _ hp st => ?_
            simp only [List.set_cons_zero, List.set_cons_succ] at st
            refine XR_nil ?_
            refine X_seq ?_
            refine X_reg ?_
            refine XR_a (op_ldA (vs := gC 0 (.slice A9 n9 c9) 3) (st.cells 0 rfl) rfl rfl rfl rfl) rfl rfl ?_
            refine XR_wn (opl_store_whole (us := gC 0 (.slice A9 n9 c9) 3) st 2 rfl rfl rfl rfl rfl (gC_one rfl) rfl) rfl rfl fun _ hp st => ?_
            simp only [List.set_cons_zero, List.set_cons_succ] at st
            refine XR_nil ?_
            refine X_ret (.cons (RV_agg (vs := gC _ _ _) rfl rfl rfl (st.cells 2 rfl)) .nil) ?_
            exact ⟨_, _, out, rfl, hgf, (st.re 3 [1, 0, 2] (by decide)).keep 1⟩
          · rw [if_neg (by omega)] at hM
            refine X_seq ?_
            refine X_reg ?_
            first | refine XR_a (op_field0 rfl rfl) rfl rfl ?_ | refine XR_a (op_fieldn rfl rfl) rfl rfl ?_
            refine XR_a (op_ld (st.cell 0 (i := 1) rfl rfl) rfl rfl rfl) rfl rfl ?_
            refine XR_a (op_len rfl rfl rfl) rfl rfl ?_
            refine XR_a (op_move rfl) rfl rfl ?_
            refine XR_a (op_lss rfl rfl) rfl rfl ?_
            refine XR_nil ?_
            refine X_if rfl (fun h => ?_) (fun h => ?_)
            · rw [if_pos (by omega)] at hM
              have hgf := hover _ hM
              refine X_reg ?_
              first | refine XR_a (op_field0 rfl rfl) rfl rfl ?_ | refine XR_a (op_fieldn rfl rfl) rfl rfl ?_
              refine XR_wn (opl_store_pt st 0 rfl rfl rfl rfl rfl (rfl)) rfl rfl fun _ hp st => ?_
              simp only [List.set_cons_zero, List.set_cons_succ] at st
              refine XR_nil ?_
              refine X_seq ?_
              refine X_reg ?_
              refine XR_a (op_ldA (vs := gC 0 (.slice A9 n9 c9) 5) (st.cells 0 rfl) rfl rfl rfl rfl) rfl rfl ?_
              refine XR_wn (opl_store_whole (us := gC 0 (.slice A9 n9 c9) 5) st 2 rfl rfl rfl rfl rfl (gC_one rfl) rfl) rfl rfl fun _ hp st => ?_
              simp only [List.set_cons_zero, List.set_cons_succ] at st
              refine XR_nil ?_
              refine X_ret (.cons (RV_agg (vs := gC _ _ _) rfl rfl rfl (st.cells 2 rfl)) .nil) ?_
              exact ⟨_, _, out, rfl, hgf, (st.re 3 [1, 0, 2] (by decide)).keep 1⟩
            · rw [if_neg (by omega)] at hM
              have hgf := hover _ hM
              refine X_skip ?_
              refine X_seq ?_
              refine X_reg ?_
              refine XR_a (op_ldA (vs := gC 0 (.slice A9 n9 c9) 0) (st.cells 0 rfl) rfl rfl rfl rfl) rfl rfl ?_
              refine XR_wn (opl_store_whole (us := gC 0 (.slice A9 n9 c9) 0) st 2 rfl rfl rfl rfl rfl (gC_one rfl) rfl) rfl rfl fun _ hp st => ?_
              simp only [List.set_cons_zero, List.set_cons_succ] at st
              refine XR_nil ?_
              refine X_ret (.cons (RV_agg (vs := gC _ _ _) rfl rfl rfl (st.cells 2 rfl)) .nil) ?_
              exact ⟨_, _, out, rfl, hgf, (st.re 3 [1, 0, 2] (by decide)).keep 1⟩
        · rw [if_pos (by omega)] at hM
          refine X_skip ?_
          refine X_seq ?_
          refine X_draw byKind (by kernel_rfl) (by kernel_rfl) ?_
          first | refine XR_a (op_field0 rfl rfl) rfl rfl ?_ | refine XR_a (op_fieldn rfl rfl) rfl rfl ?_
          refine XR_a (op_ld (st.cell 0 (i := 1) rfl rfl) rfl rfl rfl) rfl rfl ?_
          refine XR_a (op_move rfl) rfl rfl ?_
          refine XR_a (op_move rfl) rfl rfl ?_
          refine XR_a (op_move rfl) rfl rfl ?_
          refine XR_a (op_move rfl) rfl rfl ?_
          first | refine XR_a (op_addN rfl rfl (by simp only [inK]; omega)) rfl rfl ?_ | refine XR_a (op_addI rfl rfl (by simp only [inK]; omega)) rfl rfl ?_ | refine XR_a (op_add rfl rfl) rfl rfl ?_
          refine XR_a (op_slice (l := a + 2) (h := a + 2 + n) rfl rfl rfl rfl (by omega) (by omega)) rfl rfl ?_
          refine XR_wa (opl_append st 1 rfl (hcut n) (by simp; omega) (one_bytes _) (by simp; omega) rfl rfl rfl rfl rfl rfl rfl) rfl rfl rfl fun v hp st => ?_
          simp only [List.set_cons_zero, List.set_cons_succ] at st
          rw [← List.map_append] at st
          have hv9 := row_one st 1 rfl
          first | refine XR_a (op_field0 rfl rfl) rfl rfl ?_ | refine XR_a (op_fieldn rfl rfl) rfl rfl ?_
          refine XR_wn (opl_store_pt st 0 rfl rfl rfl rfl rfl (hv9)) rfl rfl fun _ hp st => ?_
          simp only [List.set_cons_zero, List.set_cons_succ] at st
          refine XR_nil ?_
          refine X_reg ?_
          refine XR_a (op_move rfl) rfl rfl ?_
          refine XR_a (op_move rfl) rfl rfl ?_
          first | refine XR_a (op_addN rfl rfl (by simp only [inK]; omega)) rfl rfl ?_ | refine XR_a (op_addI rfl rfl (by simp only [inK]; omega)) rfl rfl ?_ | refine XR_a (op_add rfl rfl) rfl rfl ?_
          refine XR_a (op_assign rfl) rfl rfl ?_
          refine XR_nil ?_
          refine X_blk ?_
          refine X_again (a + 2 + n, out ++ (l.drop (a + 2)).take n, _) (.cons rfl (.cons rfl (.cons rfl (.cons rfl (.cons rfl (.nil _)))))) ⟨by simp only; omega, ?_, fun gB gE g => hgv _ _ (Giv.more (by rw [hM]) (by rw [hM]; exact g)), st⟩ (by simp only; omega)
          simp only [List.length_append, List.length_take, List.length_drop]
          omega
def gRes (B : Nat) (hb : Heap) (w : Value) (gB : List UInt8) : Res where
  P h S := ((∃ A n c, w = .slice A n c ∧ gB.length = n ∧ n ≤ c ∧ ∀ h', Low B hb h' → Rd h' A (gB.map byteV)) ∧ ∀ k, ¬ S k) ∨ RowAt 5 1 w (gB.map byteV) h S
  loc := by
    rintro h h' S (⟨h1, h2⟩ | h1) he
    · exact .inl ⟨h1, h2⟩
    · exact .inr ((row 5 1 w (gB.map byteV)).loc h1 he)
  lt := by
    rintro h S (⟨h1, h2⟩ | h1) k hk
    · exact absurd hk (h2 k)
    · exact (row 5 1 w (gB.map byteV)).lt h1 k hk
theorem St.gRes {B : Nat} {hb h0 hp : Heap} {w : Value} {gB : List UInt8} {rs : List Res} (st : St B h0 hp rs) (j : Nat) (hj : rs[j]? = some (gRes B hb w gB)) (hlw : Low B hb hp) : ∃ A n c, w = .slice A n c ∧ gB.length = n ∧ n ≤ c ∧ Rd hp A (gB.map byteV) := by
  obtain ⟨S, h, _⟩ := st.at_ hj
  rcases h with ⟨⟨A, n, c, h1, h2, h3, h4⟩, _⟩ | h
  · exact ⟨A, n, c, h1, h2, h3, h4 hp hlw⟩
  · obtain ⟨A, n, c, h1, h2, h3, _, h4⟩ := h.rd
    exact ⟨A, n, c, h1, by simpa using h2, h3, h4⟩
theorem St.gRow {B : Nat} {hb h0 hp : Heap} {w : Value} {gB : List UInt8} {rs : List Res} (st : St B h0 hp (Bn.row 5 1 w (gB.map byteV) :: rs)) : St B h0 hp (Bn.gRes B hb w gB :: rs) := by
  obtain ⟨h1, h2, S, S1, S2, g1, g2⟩ := st
  exact ⟨h1, h2, S, S1, S2, .inr g1, g2⟩
theorem St.gArg {B : Nat} {hb h0 hp : Heap} {A : Option Addr} {n c : Nat} {gB : List UInt8} {rs : List Res} (st : St B h0 hp rs) (hl : gB.length = n) (hc : n ≤ c) (hr : ∀ h', Low B hb h' → Rd h' A (gB.map byteV)) : St B h0 hp (Bn.gRes B hb (.slice A n c) gB :: rs) := by
  have h := St.emp.2 st
  obtain ⟨h1, h2, S, S1, S2, g1, g2⟩ := h
  exact ⟨h1, h2, S, S1, S2, .inl ⟨⟨A, n, c, rfl, hl, hc, hr⟩, g1⟩, g2⟩
theorem gives_ref {B m c : Nat} {mt size : Int} {A : Option Addr} {l : List UInt8} {F : List Res} {hb h0 : Heap} (st0 : St B h0 h0 F) (hlb : Low B hb h0) (hrB : ∀ h', Low B hb h' → Rd h' A (l.map byteV)) (hl : l.length = m) (hm : m ≤ 131072) (hmc : m ≤ c) :
    Ret Try.prog 13 [.int .i64 mt, .slice A m c, .int .i64 size] h0 fun v h' => ∃ w gE, v = .agg (gC (newE mt l size) w gE).toArray ∧ Value.one w = true ∧
      (newE mt l size ≠ 0 → w = .slice none 0 0 ∧ St B h0 h' F) ∧ (newE mt l size = 0 → ∃ gB, Giv (mvOf mt l size) (atOf mt l) [] gB gE ∧ St B h0 h' (gRes B hb w gB :: F)) := by
  obtain ⟨N, hN⟩ : ∃ N, newE mt l size = N := ⟨_, rfl⟩
  rw [hN]
  unfold newE at hN
  refine ret_of_X Try.func13 rfl rfl fun w0 hw0 => ?_
  simp only [argE, Nat.zero_add, Nat.reduceAdd]
  have st := st0
  refine X_seq ?_
  refine X_reg ?_
  refine XR_wa (opl_new rfl) rfl rfl rfl ?_
  rintro _ hp ⟨p6, rfl, hnew⟩
  replace st := st.new hnew
  replace st : St B h0 hp (pt p6 30 (gC 0 (.slice none 0 0) 0) :: F) := st
  refine XR_nil ?_
  refine X_seq ?_
  refine X_seq ?_
  refine X_reg ?_
  refine XR_a (op_move rfl) rfl rfl ?_
  refine XR_a (op_lss rfl rfl) rfl rfl ?_
  refine XR_a (op_move rfl) rfl rfl ?_
  refine XR_if 9 rfl (fun h => ?_) (fun h => ?_)
  · rw [if_pos (by omega)] at hN
    refine XR_no rfl rfl ?_
    refine XR_no rfl rfl ?_
    refine XR_a (op_pick_t rfl rfl) rfl rfl ?_
    refine XR_nil ?_
    refine X_then rfl ?_
    refine X_seq ?_
    refine X_reg ?_
    refine XR_a (op_build (ps := [(0, nV 1)]) (cs := (gC 1 (.slice none 0 0) 0).toArray) rfl rfl) rfl rfl ?_
    refine XR_wn (opl_store_whole (us := gC 1 (.slice none 0 0) 0) st 0 rfl rfl rfl rfl rfl (gC_one rfl) rfl) rfl rfl fun _ hp st => ?_
    simp only [List.set_cons_zero, List.set_cons_succ] at st
    refine XR_nil ?_
    refine X_ret (.cons (RV_agg (vs := gC _ _ _) rfl rfl rfl (st.cells 0 rfl)) .nil) ?_
    subst hN
    exact ⟨_, _, rfl, rfl, fun _ => ⟨rfl, st.tail⟩, fun h => absurd h (by decide)⟩
  · refine XR_a (op_move rfl) rfl rfl ?_
    refine XR_a (op_gtr rfl rfl) rfl rfl ?_
    refine XR_a (op_pick_f rfl rfl) rfl rfl ?_
    refine XR_nil ?_
    refine X_if rfl (fun h => ?_) (fun h => ?_)
    · rw [if_pos (by omega)] at hN
      refine X_seq ?_
      refine X_reg ?_
      refine XR_a (op_build (ps := [(0, nV 1)]) (cs := (gC 1 (.slice none 0 0) 0).toArray) rfl rfl) rfl rfl ?_
      refine XR_wn (opl_store_whole (us := gC 1 (.slice none 0 0) 0) st 0 rfl rfl rfl rfl rfl (gC_one rfl) rfl) rfl rfl fun _ hp st => ?_
      simp only [List.set_cons_zero, List.set_cons_succ] at st
      refine XR_nil ?_
      refine X_ret (.cons (RV_agg (vs := gC _ _ _) rfl rfl rfl (st.cells 0 rfl)) .nil) ?_
      subst hN
      exact ⟨_, _, rfl, rfl, fun _ => ⟨rfl, st.tail⟩, fun h => absurd h (by decide)⟩
    · rw [if_neg (by omega)] at hN
      refine X_skip ?_
      refine X_seq ?_
      refine X_seq ?_
      refine X_reg ?_
      refine XR_a (op_move rfl) rfl rfl ?_
      refine XR_a (op_lss rfl rfl) rfl rfl ?_
      refine XR_a (op_move rfl) rfl rfl ?_
      refine XR_if 16 rfl (fun h => ?_) (fun h => ?_)
      · refine XR_no rfl rfl ?_
        refine XR_no rfl rfl ?_
        refine XR_a (op_pick_t rfl rfl) rfl rfl ?_
        refine XR_a (op_move rfl) rfl rfl ?_
        refine XR_no rfl rfl ?_
        refine XR_no rfl rfl ?_
        refine XR_no rfl rfl ?_
        refine XR_no rfl rfl ?_
        refine XR_no rfl rfl ?_
        refine XR_no rfl rfl ?_
        refine XR_no rfl rfl ?_
        refine XR_no rfl rfl ?_
        refine XR_a (op_pick_t rfl rfl) rfl rfl ?_
        refine XR_nil ?_
        refine X_then rfl ?_
        refine X_seq ?_
        refine X_reg ?_
        refine XR_a (op_build (ps := [(0, nV 5)]) (cs := (gC 5 (.slice none 0 0) 0).toArray) rfl rfl) rfl rfl ?_
        refine XR_wn (opl_store_whole (us := gC 5 (.slice none 0 0) 0) st 0 rfl rfl rfl rfl rfl (gC_one rfl) rfl) rfl rfl fun _ hp st => ?_
        simp only [List.set_cons_zero, List.set_cons_succ] at st
        refine XR_nil ?_
        refine X_ret (.cons (RV_agg (vs := gC _ _ _) rfl rfl rfl (st.cells 0 rfl)) .nil) ?_
        rw [if_pos (by omega)] at hN
        subst hN
        exact ⟨_, _, rfl, rfl, fun _ => ⟨rfl, st.tail⟩, fun h => absurd h (by decide)⟩
      · refine XR_a (op_move rfl) rfl rfl ?_
        refine XR_a (op_gtr rfl rfl) rfl rfl ?_
        refine XR_a (op_pick_f rfl rfl) rfl rfl ?_
        refine XR_a (op_move rfl) rfl rfl ?_
        refine XR_if 20 rfl (fun h => ?_) (fun h => ?_)
        · refine XR_no rfl rfl ?_
          refine XR_no rfl rfl ?_
          refine XR_no rfl rfl ?_
          refine XR_no rfl rfl ?_
          refine XR_no rfl rfl ?_
          refine XR_no rfl rfl ?_
          refine XR_no rfl rfl ?_
          refine XR_no rfl rfl ?_
          refine XR_a (op_pick_t rfl rfl) rfl rfl ?_
          refine XR_nil ?_
          refine X_then rfl ?_
          refine X_seq ?_
          refine X_reg ?_
          refine XR_a (op_build (ps := [(0, nV 5)]) (cs := (gC 5 (.slice none 0 0) 0).toArray) rfl rfl) rfl rfl ?_
          refine XR_wn (opl_store_whole (us := gC 5 (.slice none 0 0) 0) st 0 rfl rfl rfl rfl rfl (gC_one rfl) rfl) rfl rfl fun _ hp st => ?_
          simp only [List.set_cons_zero, List.set_cons_succ] at st
          refine XR_nil ?_
          refine X_ret (.cons (RV_agg (vs := gC _ _ _) rfl rfl rfl (st.cells 0 rfl)) .nil) ?_
          rw [if_pos (by omega)] at hN
          subst hN
          exact ⟨_, _, rfl, rfl, fun _ => ⟨rfl, st.tail⟩, fun h => absurd h (by decide)⟩
        · refine XR_a (op_move rfl) rfl rfl ?_
          refine XR_a (op_eql rfl rfl) rfl rfl ?_
          refine XR_a (op_move rfl) rfl rfl ?_
          refine XR_if 23 rfl (fun h => ?_) (fun h => ?_)
          · refine XR_a (op_move rfl) rfl rfl ?_
            refine XR_a (op_len rfl rfl rfl) rfl rfl ?_
            refine XR_a (op_move rfl) rfl rfl ?_
            refine XR_a (op_neq rfl rfl) rfl rfl ?_
            refine XR_a (op_pick_t rfl rfl) rfl rfl ?_
            refine XR_a (op_pick_f rfl rfl) rfl rfl ?_
            refine XR_nil ?_
            refine X_if rfl (fun h => ?_) (fun h => ?_)
            · refine X_seq ?_
              refine X_reg ?_
              refine XR_a (op_build (ps := [(0, nV 5)]) (cs := (gC 5 (.slice none 0 0) 0).toArray) rfl rfl) rfl rfl ?_
              refine XR_wn (opl_store_whole (us := gC 5 (.slice none 0 0) 0) st 0 rfl rfl rfl rfl rfl (gC_one rfl) rfl) rfl rfl fun _ hp st => ?_
              simp only [List.set_cons_zero, List.set_cons_succ] at st
              refine XR_nil ?_
              refine X_ret (.cons (RV_agg (vs := gC _ _ _) rfl rfl rfl (st.cells 0 rfl)) .nil) ?_
              rw [if_pos (by omega)] at hN
              subst hN
              exact ⟨_, _, rfl, rfl, fun _ => ⟨rfl, st.tail⟩, fun h => absurd h (by decide)⟩
            · refine X_skip ?_
              refine X_seq ?_
              refine X_seq ?_
              refine X_reg ?_
              refine XR_a (op_move rfl) rfl rfl ?_
              refine XR_a (op_eql rfl rfl) rfl rfl ?_
              refine XR_nil ?_
              refine X_if rfl (fun h => ?_) (fun h => ?_)
              · have hmt : mt = 0 := by omega
                subst hmt
                rw [if_neg (by omega), if_pos (by omega)] at hN
                subst hN
                refine X_seq ?_
                refine X_reg ?_
                refine XR_a (op_move rfl) rfl rfl ?_
                refine XR_a (op_build (ps := [(1, .slice A m c)]) (cs := (gC 0 (.slice A m c) 0).toArray) rfl rfl) rfl rfl ?_
                refine XR_wn (opl_store_whole (us := gC 0 (.slice A m c) 0) st 0 rfl rfl rfl rfl rfl (gC_one rfl) rfl) rfl rfl fun _ hp st => ?_
                simp only [List.set_cons_zero, List.set_cons_succ] at st
                refine XR_nil ?_
                refine X_ret (.cons (RV_agg (vs := gC _ _ _) rfl rfl rfl (st.cells 0 rfl)) .nil) ?_
                exact ⟨_, _, rfl, rfl, fun h => absurd rfl h, fun _ => ⟨l, Giv.over (mv := mvA l) (a := 0) (out := []) rfl, st.tail.gArg hl hmc hrB⟩⟩
              · refine X_skip ?_
                refine X_seq ?_
                refine X_seq ?_
                refine X_reg ?_
                refine XR_a (op_move rfl) rfl rfl ?_
                refine XR_a (op_eql rfl rfl) rfl rfl ?_
                refine XR_nil ?_
                refine X_if rfl (fun h => ?_) (fun h => ?_)
                · have hmt : mt = 2 := by omega
                  subst hmt
                  rw [if_neg (by omega), if_pos (by omega)] at hN
                  subst hN
                  obtain ⟨sz, rfl⟩ : ∃ s : Nat, size = s := ⟨size.toNat, by omega⟩
                  refine X_seq ?_
                  refine X_reg ?_
                  refine XR_a (op_move rfl) rfl rfl ?_
                  refine XR_a (op_move rfl) rfl rfl ?_
                  refine XR_wa (opl_call (pieces36_ref (hrB _ (hlb.trans st.low)) hl hm hmc (by omega)) rfl (by kernel_rfl)) rfl rfl rfl ?_
                  rintro _ hp ⟨w, gE, gB, rfl, hg, st1⟩
                  replace st := st.join st1
                  simp only [List.cons_append, List.nil_append] at st
                  obtain ⟨A9, n9, c9, rfl, _⟩ := st.row 0 rfl
                  refine XR_wn (opl_store_whole (us := gC 0 (.slice A9 n9 c9) gE) st 1 rfl rfl rfl rfl rfl (gC_one rfl) rfl) rfl rfl fun _ hp st => ?_
                  simp only [List.set_cons_zero, List.set_cons_succ] at st
                  refine XR_nil ?_
                  refine X_ret (.cons (RV_agg (vs := gC _ _ _) rfl rfl rfl (st.cells 1 rfl)) .nil) ?_
                  exact ⟨_, _, rfl, rfl, fun h => absurd rfl h, fun _ => ⟨gB, hg, (st.perm (List.Perm.swap _ _ _)).tail.gRow⟩⟩
                · have hmt : mt = 1 := by omega
                  subst hmt
                  rw [if_neg (by omega), if_neg (by omega)] at hN
                  obtain ⟨sz, rfl⟩ : ∃ s : Nat, size = s := ⟨size.toNat, by omega⟩
                  refine X_skip ?_
                  refine X_seq ?_
                  refine X_reg ?_
                  refine XR_a (op_move rfl) rfl rfl ?_
                  refine XR_a (op_move rfl) rfl rfl ?_
                  refine XR_wa (opl_call (packed_ref (hrB _ (hlb.trans st.low)) hl hm (by omega)) rfl (by kernel_rfl)) rfl rfl rfl ?_
                  rintro _ hp ⟨w, gE, rfl, how, hbad, hgood⟩
                  rw [hN] at hbad hgood ⊢
                  obtain ⟨F', st, hfin⟩ : ∃ F', St B h0 hp (pt p6 30 (gC 0 (.slice none 0 0) 0) :: F') ∧ ∀ h', St B h0 h' F' → (N ≠ 0 → w = .slice none 0 0 ∧ St B h0 h' F) ∧ (N = 0 → ∃ gB, Giv (mvOf 1 l sz) (atOf 1 l) [] gB gE ∧ St B h0 h' (gRes B hb w gB :: F)) := by
                    by_cases hN0 : N = 0
                    · obtain ⟨gB, hg, st1⟩ := hgood hN0
                      exact ⟨_, (st.join st1).perm (List.Perm.swap _ _ _), fun h' s => ⟨fun h => absurd hN0 h, fun _ => ⟨gB, hg, s.gRow⟩⟩⟩
                    · obtain ⟨hw, hx⟩ := hbad hN0
                      exact ⟨F, st.ext hx, fun h' s => ⟨fun _ => ⟨hw, s⟩, fun h => absurd h hN0⟩⟩
                  refine XR_wn (opl_store_whole (us := gC N w gE) st 0 rfl rfl rfl rfl rfl (gC_one how) rfl) rfl rfl fun _ hp st => ?_
                  simp only [List.set_cons_zero, List.set_cons_succ] at st
                  refine XR_nil ?_
                  refine X_ret (.cons (RV_agg (vs := gC _ _ _) rfl rfl rfl (st.cells 0 rfl)) .nil) ?_
                  exact ⟨_, _, rfl, how, hfin _ st.tail⟩
          · refine XR_no rfl rfl ?_
            refine XR_no rfl rfl ?_
            refine XR_no rfl rfl ?_
            refine XR_no rfl rfl ?_
            refine XR_a (op_pick_f rfl rfl) rfl rfl ?_
            refine XR_a (op_pick_f rfl rfl) rfl rfl ?_
            refine XR_nil ?_
            refine X_else rfl ?_
            refine X_skip ?_
            refine X_seq ?_
            refine X_seq ?_
            refine X_reg ?_
            refine XR_a (op_move rfl) rfl rfl ?_
            refine XR_a (op_eql rfl rfl) rfl rfl ?_
            refine XR_nil ?_
            refine X_if rfl (fun h => ?_) (fun h => ?_)
            · have hmt : mt = 0 := by omega
              subst hmt
              rw [if_neg (by omega), if_pos (by omega)] at hN
              subst hN
              refine X_seq ?_
              refine X_reg ?_
              refine XR_a (op_move rfl) rfl rfl ?_
              refine XR_a (op_build (ps := [(1, .slice A m c)]) (cs := (gC 0 (.slice A m c) 0).toArray) rfl rfl) rfl rfl ?_
              refine XR_wn (opl_store_whole (us := gC 0 (.slice A m c) 0) st 0 rfl rfl rfl rfl rfl (gC_one rfl) rfl) rfl rfl fun _ hp st => ?_
              simp only [List.set_cons_zero, List.set_cons_succ] at st
              refine XR_nil ?_
              refine X_ret (.cons (RV_agg (vs := gC _ _ _) rfl rfl rfl (st.cells 0 rfl)) .nil) ?_
              exact ⟨_, _, rfl, rfl, fun h => absurd rfl h, fun _ => ⟨l, Giv.over (mv := mvA l) (a := 0) (out := []) rfl, st.tail.gArg hl hmc hrB⟩⟩
            · refine X_skip ?_
              refine X_seq ?_
              refine X_seq ?_
              refine X_reg ?_
              refine XR_a (op_move rfl) rfl rfl ?_
              refine XR_a (op_eql rfl rfl) rfl rfl ?_
              refine XR_nil ?_
              refine X_if rfl (fun h => ?_) (fun h => ?_)
              · have hmt : mt = 2 := by omega
                subst hmt
                rw [if_neg (by omega), if_pos (by omega)] at hN
                subst hN
                obtain ⟨sz, rfl⟩ : ∃ s : Nat, size = s := ⟨size.toNat, by omega⟩
                refine X_seq ?_
                refine X_reg ?_
                refine XR_a (op_move rfl) rfl rfl ?_
                refine XR_a (op_move rfl) rfl rfl ?_
                refine XR_wa (opl_call (pieces36_ref (hrB _ (hlb.trans st.low)) hl hm hmc (by omega)) rfl (by kernel_rfl)) rfl rfl rfl ?_
                rintro _ hp ⟨w, gE, gB, rfl, hg, st1⟩
                replace st := st.join st1
                simp only [List.cons_append, List.nil_append] at st
                obtain ⟨A9, n9, c9, rfl, _⟩ := st.row 0 rfl
                refine XR_wn (opl_store_whole (us := gC 0 (.slice A9 n9 c9) gE) st 1 rfl rfl rfl rfl rfl (gC_one rfl) rfl) rfl rfl fun _ hp st => ?_
                simp only [List.set_cons_zero, List.set_cons_succ] at st
                refine XR_nil ?_
                refine X_ret (.cons (RV_agg (vs := gC _ _ _) rfl rfl rfl (st.cells 1 rfl)) .nil) ?_
                exact ⟨_, _, rfl, rfl, fun h => absurd rfl h, fun _ => ⟨gB, hg, (st.perm (List.Perm.swap _ _ _)).tail.gRow⟩⟩
              · have hmt : mt = 1 := by omega
                subst hmt
                rw [if_neg (by omega), if_neg (by omega)] at hN
                obtain ⟨sz, rfl⟩ : ∃ s : Nat, size = s := ⟨size.toNat, by omega⟩
                refine X_skip ?_
                refine X_seq ?_
                refine X_reg ?_
                refine XR_a (op_move rfl) rfl rfl ?_
                refine XR_a (op_move rfl) rfl rfl ?_
                refine XR_wa (opl_call (packed_ref (hrB _ (hlb.trans st.low)) hl hm (by omega)) rfl (by kernel_rfl)) rfl rfl rfl ?_
                rintro _ hp ⟨w, gE, rfl, how, hbad, hgood⟩
                rw [hN] at hbad hgood ⊢
                obtain ⟨F', st, hfin⟩ : ∃ F', St B h0 hp (pt p6 30 (gC 0 (.slice none 0 0) 0) :: F') ∧ ∀ h', St B h0 h' F' → (N ≠ 0 → w = .slice none 0 0 ∧ St B h0 h' F) ∧ (N = 0 → ∃ gB, Giv (mvOf 1 l sz) (atOf 1 l) [] gB gE ∧ St B h0 h' (gRes B hb w gB :: F)) := by
                  by_cases hN0 : N = 0
                  · obtain ⟨gB, hg, st1⟩ := hgood hN0
                    exact ⟨_, (st.join st1).perm (List.Perm.swap _ _ _), fun h' s => ⟨fun h => absurd hN0 h, fun _ => ⟨gB, hg, s.gRow⟩⟩⟩
                  · obtain ⟨hw, hx⟩ := hbad hN0
                    exact ⟨F, st.ext hx, fun h' s => ⟨fun _ => ⟨hw, s⟩, fun h => absurd h hN0⟩⟩
                refine XR_wn (opl_store_whole (us := gC N w gE) st 0 rfl rfl rfl rfl rfl (gC_one how) rfl) rfl rfl fun _ hp st => ?_
                simp only [List.set_cons_zero, List.set_cons_succ] at st
                refine XR_nil ?_
                refine X_ret (.cons (RV_agg (vs := gC _ _ _) rfl rfl rfl (st.cells 0 rfl)) .nil) ?_
                exact ⟨_, _, rfl, how, hfin _ st.tail⟩
def partG (N : Nat) (gB : List UInt8) (gE : Nat) (fr n : Int) : List UInt8 × Nat :=
  if fr < 0 ∨ n < 0 then ([], 1) else if N ≠ 0 then ([], N) else if n ≤ (gB.length : Int) - min fr gB.length then ((gB.drop (min fr.toNat gB.length)).take n.toNat, 0) else if gE ≠ 0 then ([], gE) else (gB.drop (min fr.toNat gB.length), 0)
theorem part36_ref {N gE g c : Nat} {A : Option Addr} {gB : List UInt8} {fr n : Int} {h0 : Heap} (hr : Rd h0 A (gB.map byteV)) (hl : gB.length = g) (hgc : g ≤ c) (hfr : inK .i64 fr) (hn : inK .i64 n) (hg : g ≤ 1048576) :
    Ret Try.prog 22 [.agg (gC N (.slice A g c) gE).toArray, .int .i64 fr, .int .i64 n] h0 fun v h' => ∃ A' g' c', v = retVal [.slice A' g' c', nV (partG N gB gE fr n).2] ∧ (partG N gB gE fr n).1.length = g' ∧ g' ≤ c' ∧ Rd h' A' ((partG N gB gE fr n).1.map byteV) ∧ Ext h0 h' := by
  obtain ⟨P, hP⟩ : ∃ P, partG N gB gE fr n = P := ⟨_, rfl⟩
  rw [hP]
  unfold partG at hP
  refine ret_of_X Try.func22 rfl rfl fun w0 hw0 => ?_
  simp only [argE, Nat.zero_add, Nat.reduceAdd]
  have st := St.start h0
  refine X_seq ?_
  refine X_reg ?_
  refine XR_wa (opl_bx (cs := gC N (.slice A g c) gE) rfl rfl) rfl rfl rfl ?_
  rintro _ hp ⟨p3, rfl, hnew⟩
  replace st := st.new hnew
  refine XR_a (op_assign rfl) rfl rfl ?_
  refine XR_a (op_assign rfl) rfl rfl ?_
  refine XR_nil ?_
  refine X_seq ?_
  refine X_seq ?_
  refine X_reg ?_
  refine XR_a (op_move rfl) rfl rfl ?_
  refine XR_a (op_lss rfl rfl) rfl rfl ?_
  refine XR_a (op_move rfl) rfl rfl ?_
  refine XR_if 10 rfl (fun h => ?_) (fun h => ?_)
  · rw [if_pos (by omega)] at hP
    refine XR_no rfl rfl ?_
    refine XR_no rfl rfl ?_
    refine XR_a (op_pick_t rfl rfl) rfl rfl ?_
    refine XR_nil ?_
    refine X_then rfl ?_
    refine X_seq ?_
    refine X_reg ?_
    refine XR_a (op_assign rfl) rfl rfl ?_
    refine XR_a (op_assign rfl) rfl rfl ?_
    refine XR_nil ?_
    refine X_ret (.cons (.tmp rfl) (.cons (.tmp rfl) .nil)) ?_
    subst hP
    exact ⟨none, 0, 0, rfl, rfl, Nat.le_refl _, .inl rfl, st.low⟩
  · refine XR_a (op_move rfl) rfl rfl ?_
    refine XR_a (op_lss rfl rfl) rfl rfl ?_
    refine XR_a (op_pick_f rfl rfl) rfl rfl ?_
    refine XR_nil ?_
    refine X_if rfl (fun h => ?_) (fun h => ?_)
    · rw [if_pos (by omega)] at hP
      refine X_seq ?_
      refine X_reg ?_
      refine XR_a (op_assign rfl) rfl rfl ?_
      refine XR_a (op_assign rfl) rfl rfl ?_
      refine XR_nil ?_
      refine X_ret (.cons (.tmp rfl) (.cons (.tmp rfl) .nil)) ?_
      subst hP
      exact ⟨none, 0, 0, rfl, rfl, Nat.le_refl _, .inl rfl, st.low⟩
    · rw [if_neg (by omega)] at hP
      refine X_skip ?_
      refine X_seq ?_
      refine X_seq ?_
      refine X_reg ?_
      first | refine XR_a (op_field0 rfl rfl) rfl rfl ?_ | refine XR_a (op_fieldn rfl rfl) rfl rfl ?_
      refine XR_a (op_ld (st.cell 0 (i := 0) rfl rfl) rfl rfl rfl) rfl rfl ?_
      refine XR_a (op_neq rfl rfl) rfl rfl ?_
      refine XR_nil ?_
      refine X_if rfl (fun h => ?_) (fun h => ?_)
      · rw [if_pos (by omega)] at hP
        refine X_seq ?_
        refine X_draw byKind (by kernel_rfl) (by kernel_rfl) ?_
        first | refine XR_a (op_field0 rfl rfl) rfl rfl ?_ | refine XR_a (op_fieldn rfl rfl) rfl rfl ?_
        refine XR_a (op_ld (st.cell 0 (i := 0) rfl rfl) rfl rfl rfl) rfl rfl ?_
        refine XR_a (op_assign rfl) rfl rfl ?_
        refine XR_a (op_assign rfl) rfl rfl ?_
        refine XR_nil ?_
        refine X_ret (.cons (.tmp rfl) (.cons (.tmp rfl) .nil)) ?_
        subst hP
        exact ⟨none, 0, 0, rfl, rfl, Nat.le_refl _, .inl rfl, st.low⟩
      · rw [if_neg (by omega)] at hP
        refine X_skip ?_
        refine X_seq ?_
        refine X_seq ?_
        refine X_reg ?_
        refine XR_a (op_move rfl) rfl rfl ?_
        first | refine XR_a (op_field0 rfl rfl) rfl rfl ?_ | refine XR_a (op_fieldn rfl rfl) rfl rfl ?_
        refine XR_a (op_ld (st.cell 0 (i := 1) rfl rfl) rfl rfl rfl) rfl rfl ?_
        refine XR_a (op_len rfl rfl rfl) rfl rfl ?_
        refine XR_a (op_gtr rfl rfl) rfl rfl ?_
        refine XR_nil ?_
        refine X_if rfl (fun h => ?_) (fun h => ?_)
        · have hx2 : min fr.toNat gB.length = g := by omega
          refine X_reg ?_
          first | refine XR_a (op_field0 rfl rfl) rfl rfl ?_ | refine XR_a (op_fieldn rfl rfl) rfl rfl ?_
          refine XR_a (op_ld (st.cell 0 (i := 1) rfl rfl) rfl rfl rfl) rfl rfl ?_
          refine XR_a (op_len rfl rfl rfl) rfl rfl ?_
          refine XR_a (op_assign rfl) rfl rfl ?_
          refine XR_nil ?_
          refine X_seq ?_
          refine X_seq ?_
          refine X_reg ?_
          refine XR_a (op_move rfl) rfl rfl ?_
          first | refine XR_a (op_field0 rfl rfl) rfl rfl ?_ | refine XR_a (op_fieldn rfl rfl) rfl rfl ?_
          refine XR_a (op_ld (st.cell 0 (i := 1) rfl rfl) rfl rfl rfl) rfl rfl ?_
          refine XR_a (op_len rfl rfl rfl) rfl rfl ?_
          refine XR_a (op_move rfl) rfl rfl ?_
          refine XR_a (op_subI rfl rfl (by simp only [inK] at hfr ⊢; omega)) rfl rfl ?_
          refine XR_a (op_leq rfl rfl) rfl rfl ?_
          refine XR_nil ?_
          refine X_if rfl (fun h => ?_) (fun h => ?_)
          · rw [if_pos (by omega), hx2] at hP
            obtain ⟨y, hy⟩ : ∃ y : Nat, n = y := ⟨n.toNat, by omega⟩
            subst hy
            rw [Int.toNat_natCast] at hP
            refine X_seq ?_
            refine X_reg ?_
            first | refine XR_a (op_field0 rfl rfl) rfl rfl ?_ | refine XR_a (op_fieldn rfl rfl) rfl rfl ?_
            refine XR_a (op_ld (st.cell 0 (i := 1) rfl rfl) rfl rfl rfl) rfl rfl ?_
            refine XR_a (op_move rfl) rfl rfl ?_
            refine XR_a (op_move rfl) rfl rfl ?_
            refine XR_a (op_move rfl) rfl rfl ?_
            refine XR_a (op_addI rfl rfl (by simp only [inK] at hn ⊢; omega)) rfl rfl ?_
            refine XR_as (nV (g + y)) (congrArg (Value.int .i64) (by omega)) ?_
            refine XR_a (op_slice (l := g) (h := g + y) rfl rfl rfl rfl (by omega) (by omega)) rfl rfl ?_
            have hcut := (hr.ext st.low).cut g 1 c y (by intro hh; simp; omega)
            rw [Nat.mul_one, ← List.map_drop, ← List.map_take] at hcut
            refine XR_a (op_assign rfl) rfl rfl ?_
            refine XR_a (op_assign rfl) rfl rfl ?_
            refine XR_nil ?_
            refine X_ret (.cons (.tmp rfl) (.cons (.tmp rfl) .nil)) ?_
            subst hP
            exact ⟨_, _, _, rfl, by simp only; rw [List.length_take, List.length_drop]; omega, by omega, hcut, st.low⟩
          · rw [if_neg (by omega)] at hP
            refine X_skip ?_
            refine X_seq ?_
            refine X_seq ?_
            refine X_reg ?_
            first | refine XR_a (op_field0 rfl rfl) rfl rfl ?_ | refine XR_a (op_fieldn rfl rfl) rfl rfl ?_
            refine XR_a (op_ld (st.cell 0 (i := 2) rfl rfl) rfl rfl rfl) rfl rfl ?_
            refine XR_a (op_neq rfl rfl) rfl rfl ?_
            refine XR_nil ?_
            refine X_if rfl (fun h => ?_) (fun h => ?_)
            · rw [if_pos (by omega)] at hP
              refine X_seq ?_
              refine X_draw byKind (by kernel_rfl) (by kernel_rfl) ?_
              first | refine XR_a (op_field0 rfl rfl) rfl rfl ?_ | refine XR_a (op_fieldn rfl rfl) rfl rfl ?_
              refine XR_a (op_ld (st.cell 0 (i := 2) rfl rfl) rfl rfl rfl) rfl rfl ?_
              refine XR_a (op_assign rfl) rfl rfl ?_
              refine XR_a (op_assign rfl) rfl rfl ?_
              refine XR_nil ?_
              refine X_ret (.cons (.tmp rfl) (.cons (.tmp rfl) .nil)) ?_
              subst hP
              exact ⟨none, 0, 0, rfl, rfl, Nat.le_refl _, .inl rfl, st.low⟩
            · rw [if_neg (by omega), hx2] at hP
              refine X_skip ?_
              refine X_seq ?_
              refine X_reg ?_
              first | refine XR_a (op_field0 rfl rfl) rfl rfl ?_ | refine XR_a (op_fieldn rfl rfl) rfl rfl ?_
              refine XR_a (op_ld (st.cell 0 (i := 1) rfl rfl) rfl rfl rfl) rfl rfl ?_
              refine XR_a (op_move rfl) rfl rfl ?_
              refine XR_a (op_slice_l (l := g) rfl rfl rfl (by omega) (by omega)) rfl rfl ?_
              have hcut := (hr.ext st.low).cut g 1 c (g - g) (by intro hh; simp; omega)
              rw [Nat.mul_one, ← List.map_drop, ← List.map_take, List.take_of_length_le (by rw [List.length_drop]; omega)] at hcut
              refine XR_a (op_assign rfl) rfl rfl ?_
              refine XR_a (op_assign rfl) rfl rfl ?_
              refine XR_nil ?_
              refine X_ret (.cons (.tmp rfl) (.cons (.tmp rfl) .nil)) ?_
              subst hP
              exact ⟨_, _, _, rfl, by simp only; rw [List.length_drop]; omega, by omega, hcut, st.low⟩
        · obtain ⟨x, hx⟩ : ∃ x : Nat, fr = x := ⟨fr.toNat, by omega⟩
          have hx2 : min fr.toNat gB.length = x := by omega
          subst hx
          refine X_skip ?_
          refine X_seq ?_
          refine X_seq ?_
          refine X_reg ?_
          refine XR_a (op_move rfl) rfl rfl ?_
          first | refine XR_a (op_field0 rfl rfl) rfl rfl ?_ | refine XR_a (op_fieldn rfl rfl) rfl rfl ?_
          refine XR_a (op_ld (st.cell 0 (i := 1) rfl rfl) rfl rfl rfl) rfl rfl ?_
          refine XR_a (op_len rfl rfl rfl) rfl rfl ?_
          refine XR_a (op_move rfl) rfl rfl ?_
          refine XR_a (op_subI rfl rfl (by simp only [inK] at hfr ⊢; omega)) rfl rfl ?_
          refine XR_a (op_leq rfl rfl) rfl rfl ?_
          refine XR_nil ?_
          refine X_if rfl (fun h => ?_) (fun h => ?_)
          · rw [if_pos (by omega), hx2] at hP
            obtain ⟨y, hy⟩ : ∃ y : Nat, n = y := ⟨n.toNat, by omega⟩
            subst hy
            rw [Int.toNat_natCast] at hP
            refine X_seq ?_
            refine X_reg ?_
            first | refine XR_a (op_field0 rfl rfl) rfl rfl ?_ | refine XR_a (op_fieldn rfl rfl) rfl rfl ?_
            refine XR_a (op_ld (st.cell 0 (i := 1) rfl rfl) rfl rfl rfl) rfl rfl ?_
            refine XR_a (op_move rfl) rfl rfl ?_
            refine XR_a (op_move rfl) rfl rfl ?_
            refine XR_a (op_move rfl) rfl rfl ?_
            refine XR_a (op_addI rfl rfl (by simp only [inK] at hn ⊢; omega)) rfl rfl ?_
            refine XR_as (nV (x + y)) (congrArg (Value.int .i64) (by omega)) ?_
            refine XR_a (op_slice (l := x) (h := x + y) rfl rfl rfl rfl (by omega) (by omega)) rfl rfl ?_
            have hcut := (hr.ext st.low).cut x 1 c y (by intro hh; simp; omega)
            rw [Nat.mul_one, ← List.map_drop, ← List.map_take] at hcut
            refine XR_a (op_assign rfl) rfl rfl ?_
            refine XR_a (op_assign rfl) rfl rfl ?_
            refine XR_nil ?_
            refine X_ret (.cons (.tmp rfl) (.cons (.tmp rfl) .nil)) ?_
            subst hP
            exact ⟨_, _, _, rfl, by simp only; rw [List.length_take, List.length_drop]; omega, by omega, hcut, st.low⟩
          · rw [if_neg (by omega)] at hP
            refine X_skip ?_
            refine X_seq ?_
            refine X_seq ?_
            refine X_reg ?_
            first | refine XR_a (op_field0 rfl rfl) rfl rfl ?_ | refine XR_a (op_fieldn rfl rfl) rfl rfl ?_
            refine XR_a (op_ld (st.cell 0 (i := 2) rfl rfl) rfl rfl rfl) rfl rfl ?_
            refine XR_a (op_neq rfl rfl) rfl rfl ?_
            refine XR_nil ?_
            refine X_if rfl (fun h => ?_) (fun h => ?_)
            · rw [if_pos (by omega)] at hP
              refine X_seq ?_
              refine X_draw byKind (by kernel_rfl) (by kernel_rfl) ?_
              first | refine XR_a (op_field0 rfl rfl) rfl rfl ?_ | refine XR_a (op_fieldn rfl rfl) rfl rfl ?_
              refine XR_a (op_ld (st.cell 0 (i := 2) rfl rfl) rfl rfl rfl) rfl rfl ?_
              refine XR_a (op_assign rfl) rfl rfl ?_
              refine XR_a (op_assign rfl) rfl rfl ?_
              refine XR_nil ?_
              refine X_ret (.cons (.tmp rfl) (.cons (.tmp rfl) .nil)) ?_
              subst hP
              exact ⟨none, 0, 0, rfl, rfl, Nat.le_refl _, .inl rfl, st.low⟩
            · rw [if_neg (by omega), hx2] at hP
              refine X_skip ?_
              refine X_seq ?_
              refine X_reg ?_
              first | refine XR_a (op_field0 rfl rfl) rfl rfl ?_ | refine XR_a (op_fieldn rfl rfl) rfl rfl ?_
              refine XR_a (op_ld (st.cell 0 (i := 1) rfl rfl) rfl rfl rfl) rfl rfl ?_
              refine XR_a (op_move rfl) rfl rfl ?_
              refine XR_a (op_slice_l (l := x) rfl rfl rfl (by omega) (by omega)) rfl rfl ?_
              have hcut := (hr.ext st.low).cut x 1 c (g - x) (by intro hh; simp; omega)
              rw [Nat.mul_one, ← List.map_drop, ← List.map_take, List.take_of_length_le (by rw [List.length_drop]; omega)] at hcut
              refine XR_a (op_assign rfl) rfl rfl ?_
              refine XR_a (op_assign rfl) rfl rfl ?_
              refine XR_nil ?_
              refine X_ret (.cons (.tmp rfl) (.cons (.tmp rfl) .nil)) ?_
              subst hP
              exact ⟨_, _, _, rfl, by simp only; rw [List.length_drop]; omega, by omega, hcut, st.low⟩
end Go.Bn
end
