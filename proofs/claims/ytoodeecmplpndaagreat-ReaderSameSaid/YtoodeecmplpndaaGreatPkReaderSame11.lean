/- Packed texts of a claim: what its theorem uses, joined. -/
import Derived.Test.YtoodeecmplpndaaGreatPkReaderSame10
section
set_option linter.unusedVariables false
set_option linter.unusedSimpArgs false
set_option maxHeartbeats 4000000
set_option maxRecDepth 20000
namespace Go.Bn
open Go Proofs
noncomputable def souA (B : Nat) (hb : Heap) (ps m c : Nat) (A : Option Addr) (l : List UInt8) (hr : ∀ h', Low B hb h' → Rd h' A (l.map byteV)) (hl : l.length = m) (hm : m ≤ 65536) : Sou B where
  hb := hb
  T := 164
  rv := .pointer (some ⟨ps, 0, none⟩)
  f := 201
  SR := fun _ => pt ps 166 [.slice A m c]
  mv := mvA l
  I := fun _ out => out = []
  lim := l.length
  ok := mvA_ok l
  hlim := by omega
  hm := meth_stored ps
  hc := by kernel_rfl
  more := by
    intro h0 v a out F hlow hI st
    subst hI
    refine (amore_spec st (fun h' hh => hr h' (hlow.trans hh)) hl (by omega)).mono ?_
    rintro u h' ⟨v', rfl, st2⟩
    exact ⟨v', rfl, fun _ => (St.reF [_, _] 2 st2 [1, 0] (by decide)).tail, fun h => by cases h⟩
noncomputable def souS (B : Nat) (hb : Heap) (ps pf m c size : Nat) (A : Option Addr) (l : List UInt8) (hr : ∀ h', Low B hb h' → Rd h' A (l.map byteV)) (hl : l.length = m) (hm : m ≤ 1073741824) (hmc : m ≤ c) (hs : size ≤ 1048576) : Sou B where
  hb := hb
  T := 171
  rv := .pointer (some ⟨ps, 0, none⟩)
  f := 202
  SR := fun a => starR (fdG pf A m c a false) (pcG ps pf size)
  mv := mvS l size
  I := fun a out => a ≤ l.length ∧ out.length ≤ size
  lim := size
  ok := mvS_ok
  hlim := hs
  hm := meth_pieces ps
  hc := by kernel_rfl
  more := by
    intro h0 v a out F hlow hI st
    have st1 := St.reF [_, _] 2 st [1, 0] (by decide)
    have st2 := St.reF [_, _, _] 3 (St.star.1 st1) [2, 0, 1] (by decide)
    refine (smore_spec st2 (fun h' hh => hr h' (hlow.trans hh)) hl hm hmc (by omega) hs hI.2).mono ?_
    rintro u h' ⟨v', bad, a', rfl, st3, hov⟩
    refine ⟨v', rfl, fun _ => (St.reF [_, _, _] 3 st3 [1, 2, 0] (by decide)).tail.tail, fun h => ?_⟩
    obtain ⟨rfl, rfl⟩ := hov h
    exact (St.star.2 (St.reF [_, _, _] 3 st3 [1, 2, 0] (by decide))).perm (List.Perm.swap _ _ _)
noncomputable def souP (B : Nat) (hb : Heap) (pk q t1 t2 m c size : Nat) (A : Option Addr) (l : List UInt8) (la lb : List Nat) (oka : lensOK la) (okb : lensOK lb) (na : la.length = 273) (nb : lb.length = 30) (hr : ∀ h', Low B hb h' → Rd h' A (l.map byteV)) (hl : l.length = m) (hm : m ≤ 1073741824) (hs : size ≤ 1048576) : Sou B where
  hb := hb
  T := 174
  rv := .pointer (some ⟨pk, 0, none⟩)
  f := 204
  SR := fun a => starR (rdG q A m c a) (starR (tabR t1 (qcodes la) 9) (starR (tabR t2 (qcodes lb) 9) (pkG pk q t1 t2 size)))
  mv := mvP la lb (bitsB l) size
  I := fun a out => a ≤ (bitsB l).length ∧ out.length ≤ size
  lim := size
  ok := mvP_ok oka okb
  hlim := hs
  hm := meth_packed pk
  hc := by kernel_rfl
  more := by
    intro h0 v a out F hlow hI st
    have hbl := bitsB_length l
    have st1 := St.star.1 (St.reF [_, _] 2 st [1, 0] (by decide))
    have st2 := St.star.1 (St.reF [_, _, _] 3 st1 [1, 0, 2] (by decide))
    have st3 := St.star.1 (St.reF [_, _, _, _] 4 st2 [1, 0, 2, 3] (by decide))
    have st4 := St.reF [_, _, _, _, _] 5 st3 [4, 3, 2, 0, 1] (by decide)
    refine (pmore_spec st4 oka okb na nb (fun h' hh => hr h' (hlow.trans hh)) hl hm (by have := hI.1; omega) hs hI.2).mono ?_
    rintro u h' ⟨v', rfl, st5⟩
    refine ⟨v', rfl, fun _ => (St.reF [_, _, _, _, _] 5 st5 [1, 2, 3, 4, 0] (by decide)).tail.tail.tail.tail, fun h => ?_⟩
    have g1 := St.star.2 (St.reF [_, _, _, _, _] 5 st5 [3, 4, 0, 1, 2] (by decide))
    have g2 := St.star.2 (St.reF [_, _, _, _] 4 g1 [3, 0, 1, 2] (by decide))
    have g3 := St.star.2 (St.reF [_, _, _] 3 g2 [2, 0, 1] (by decide))
    exact g3.perm (List.Perm.swap _ _ _)
theorem castI_iV (z : List Nat) : z.map nV = (castI z).map iV := by unfold castI; rw [List.map_map]; rfl
theorem unpack_spec {B m c size : Nat} {A : Option Addr} {l : List UInt8} {F : List Res} {h0 : Heap} (st0 : St B h0 h0 F) (hrB : ∀ h', Low B h0 h' → Rd h' A (l.map byteV)) (hl : l.length = m) (hm : m ≤ 1073741824) :
  Ret Tryz.prog 99 [.slice A m c, nV size] h0 fun v h' => ∃ w, v = retVal [w, nV (codesT (bitsB l) 0).1] ∧ ((codesT (bitsB l) 0).1 ≠ 0 → w = .pointer none ∧ St B h0 h' F) ∧
   ((codesT (bitsB l) 0).1 = 0 → (codesT (bitsB l) 0).2.2.2 ≤ 8 * m ∧ ∃ pk q t1 t2, w = .pointer (some ⟨pk, 0, none⟩) ∧ St B h0 h' (rdG q A m c (codesT (bitsB l) 0).2.2.2 :: tabR t1 (qcodes (codesT (bitsB l) 0).2.1) 9 :: tabR t2 (qcodes (codesT (bitsB l) 0).2.2.1) 9 :: pkG pk q t1 t2 size :: F)) := by
 obtain ⟨N, hN⟩ : ∃ N, codesT (bitsB l) 0 = N := ⟨_, rfl⟩
 rw [hN]
 unfold codesT at hN
 obtain ⟨X, hX⟩ : ∃ X, takeR (bitsB l) 0 (okR (bitsB l) 0) = X := ⟨_, rfl⟩
 rw [hX] at hN
 obtain ⟨Y, hY⟩ : ∃ Y, takeR (bitsB l) X.2.1 (okR (bitsB l) X.2.1) = Y := ⟨_, rfl⟩
 rw [hY] at hN
 have w9 : widthN 9 = 9 := rfl
 refine ret_of_X Tryz.func99 rfl rfl fun w0 hw0 => ?_
 simp only [argE, Nat.zero_add, Nat.reduceAdd]
 refine X_seq (X_reg (XA rfl rfl rfl (XA rfl rfl rfl (XR_nil (X_seq (X_reg (XV rfl rfl rfl ?_)))))))
 refine XR_wa (opl_call (rnew_spec) rfl (by kernel_rfl)) rfl rfl rfl ?_
 rintro _ hp ⟨q, rfl, st1⟩
 have st := st0.join st1
 simp only [List.cons_append, List.nil_append] at st
 clear st1
 refine XV rfl rfl rfl ?_
 refine XR_a (op_build (ps := [(0, .pointer (some ⟨q, 0, none⟩)), (3, nV size)]) (cs := #[.pointer (some ⟨q, 0, none⟩), .pointer none, .pointer none, nV size]) rfl rfl) rfl rfl ?_
 refine XR_wa (opl_bx (cs := [.pointer (some ⟨q, 0, none⟩), .pointer none, .pointer none, nV size]) rfl rfl) rfl rfl rfl ?_
 rintro _ hp ⟨pk, rfl, hnew⟩
 replace st := (st.new hnew).perm (List.Perm.swap _ _ _)
 refine XA rfl rfl rfl (XR_nil (X_seq (X_reg (XV rfl rfl rfl (XR_a (op_nilCheck rfl) rfl rfl ?_)))))
 first | refine XR_a (op_field0 rfl rfl) rfl rfl ?_ | refine XR_a (op_fieldn rfl rfl) rfl rfl ?_
 refine XR_a (op_ld (st.cell 1 (i := 0) rfl rfl) rfl rfl rfl) rfl rfl ?_
 refine XR_wa (opl_call (rtake_runs st.here (fun h' hh => hrB h' (st.low.trans hh)) hl hm (by omega)) rfl (by kernel_rfl)) rfl rfl rfl ?_
 rintro _ hp1 ⟨w1, a1, rfl, ha1, hat, st2⟩
 rw [hX] at hat st2 ⊢
 replace st := st.trans st2
 clear st2
 obtain ⟨A1, n1, c1, rfl, hl1, _⟩ := st.row 0 rfl
 rw [List.length_map, Nat.mul_one] at hl1
 refine XV rfl rfl rfl (XR_a (op_extract rfl rfl) rfl rfl (XR_a (op_extract rfl rfl) rfl rfl (XA rfl rfl rfl (XA rfl rfl rfl (XR_nil (X_seq (X_seq (X_reg (XV rfl rfl rfl ?_)))))))))
 refine XR_a (op_neq rfl rfl) rfl rfl ?_
 refine XR_nil ?_
 refine X_if rfl (fun h => ?_) (fun h => ?_)
 ·rw [if_pos (by omega)] at hN
  subst hN
  refine X_seq (X_reg (XV rfl rfl rfl (XA rfl rfl rfl (XA rfl rfl rfl (XR_nil ?_)))))
  refine X_ret (.cons (.tmp rfl) (.cons (.tmp rfl) .nil)) ?_
  exact ⟨_, rfl, fun _ => ⟨rfl, st.tail.tail.tail⟩, fun h9 => absurd h9 (by simp only; omega)⟩
 ·rw [if_neg (by omega)] at hN
  obtain rfl := hat (by omega)
  replace st := St.reF [_, _, _] 3 st [1, 0, 2] (by decide)
  simp only [List.map_cons, List.map_nil, getR, List.cons_append, List.nil_append] at st
  refine X_skip (X_seq (X_reg (XV rfl rfl rfl (XR_a (op_nilCheck rfl) rfl rfl ?_))))
  first | refine XR_a (op_field0 rfl rfl) rfl rfl ?_ | refine XR_a (op_fieldn rfl rfl) rfl rfl ?_
  refine XR_a (op_ld (st.cell 2 (i := 0) rfl rfl) rfl rfl rfl) rfl rfl ?_
  refine XR_wa (opl_call (rtake_runs st.here (fun h' hh => hrB h' (st.low.trans hh)) hl hm ha1) rfl (by kernel_rfl)) rfl rfl rfl ?_
  rintro _ hp2 ⟨w2, a2, rfl, ha2, hat2, st2⟩
  rw [hY] at hat2 st2 ⊢
  replace st := st.trans st2
  clear st2
  obtain ⟨A2, n2, c2, rfl, hl2, _⟩ := st.row 0 rfl
  rw [List.length_map, Nat.mul_one] at hl2
  refine XV rfl rfl rfl (XR_a (op_extract rfl rfl) rfl rfl (XR_a (op_extract rfl rfl) rfl rfl (XA rfl rfl rfl (XA rfl rfl rfl (XR_nil (X_seq (X_block (X_seq (X_reg ?_)))))))))
  refine XV rfl rfl rfl ?_
  refine XR_a (op_neq rfl rfl) rfl rfl ?_
  refine XA rfl rfl rfl (XR_nil ?_)
  refine X_if rfl (fun h => ?_) (fun h => ?_)
  ·rw [if_pos (by omega)] at hN
   subst hN
   refine X_seq (X_reg (XV rfl rfl rfl (XA rfl rfl rfl (XA rfl rfl rfl (XR_nil ?_)))))
   refine X_ret (.cons (.tmp rfl) (.cons (.tmp rfl) .nil)) ?_
   exact ⟨_, rfl, fun _ => ⟨rfl, st.tail.tail.tail.tail⟩, fun h9 => absurd h9 (by simp only; omega)⟩
  ·rw [if_neg (by omega)] at hN
   obtain rfl := hat2 (by omega)
   refine X_seq (X_reg (XV rfl rfl rfl ?_))
   refine XR_a (op_len rfl rfl rfl) rfl rfl ?_
   refine XR_a (op_neq rfl rfl) rfl rfl ?_
   refine XV rfl rfl rfl ?_
   refine XR_if 42 rfl (fun h => ?_) (fun h => ?_)
   ·rw [if_pos (by omega)] at hN
    subst hN
    refine XR_no rfl rfl (XR_no rfl rfl (XR_no rfl rfl (XR_a (op_pick_t rfl rfl) rfl rfl (XA rfl rfl rfl (XR_nil (X_then rfl (X_seq (X_reg (XA rfl rfl rfl ?_)))))))))
    refine XA rfl rfl rfl (XR_nil ?_)
    refine X_ret (.cons (.tmp rfl) (.cons (.tmp rfl) .nil)) ?_
    exact ⟨_, rfl, fun _ => ⟨rfl, st.tail.tail.tail.tail⟩, fun h9 => absurd h9 (by decide)⟩
   ·refine XV rfl rfl rfl ?_
    refine XR_a (op_len rfl rfl rfl) rfl rfl ?_
    refine XR_a (op_neq rfl rfl) rfl rfl ?_
    refine XR_a (op_pick_f rfl rfl) rfl rfl (XA rfl rfl rfl (XR_nil ?_))
    refine X_if rfl (fun h => ?_) (fun h => ?_)
    ·rw [if_pos (by omega)] at hN
     subst hN
     refine X_seq (X_reg (XA rfl rfl rfl (XA rfl rfl rfl (XR_nil ?_))))
     refine X_ret (.cons (.tmp rfl) (.cons (.tmp rfl) .nil)) ?_
     exact ⟨_, rfl, fun _ => ⟨rfl, st.tail.tail.tail.tail⟩, fun h9 => absurd h9 (by decide)⟩
    ·rw [if_neg (by omega)] at hN
     refine X_skip (X_blk (X_seq (X_seq (X_reg (XV rfl rfl rfl (XV rfl rfl rfl ?_))))))
     refine XR_wa (opl_call (qnew_spec (li := castI X.1) 9 (by rw [← castI_iV]; exact (st.rdS 2 rfl).2) (by unfold castI; rw [List.length_map]; exact hl1) (by omega)) rfl (by kernel_rfl)) rfl rfl rfl ?_
     rintro _ hp3 ⟨w3, rfl, hx3, hy3, hz3⟩
     rw [castI_toNat] at hy3
     refine XV rfl rfl rfl ?_
     by_cases hR1 : rightC (castI X.1)
     ·obtain ⟨t1, rfl, st3⟩ := hy3 hR1
      rw [w9] at st3
      replace st := st.join st3
      simp only [List.cons_append, List.nil_append] at st
      replace st := St.reF [_, _, _, _, _] 5 st [4, 0, 1, 2, 3] (by decide)
      simp only [List.map_cons, List.map_nil, getR, List.cons_append, List.nil_append] at st
      rw [show errC (castI X.1) = 0 by unfold errC; rw [if_pos hR1]]
      refine XR_a (op_extract rfl rfl) rfl rfl (XR_a (op_extract rfl rfl) rfl rfl (XR_a (op_nilCheck rfl) rfl rfl ?_))
      first | refine XR_a (op_field0 rfl rfl) rfl rfl ?_ | refine XR_a (op_fieldn rfl rfl) rfl rfl ?_
      refine XR_wn (opl_store_pt st 0 rfl rfl rfl rfl rfl (rfl)) rfl rfl fun _ hp st => ?_
      simp only [List.set_cons_zero, List.set_cons_succ] at st
      refine XA rfl rfl rfl (XR_nil (X_seq (X_reg (XV rfl rfl rfl ?_))))
      refine XR_a (op_neq rfl rfl) rfl rfl ?_
      refine XR_as (.bool false) (congrArg Value.bool (decide_eq_false (by simp))) ?_
      refine XR_nil (X_else rfl (X_skip (X_seq (X_seq (X_reg (XV rfl rfl rfl (XV rfl rfl rfl ?_)))))))
      refine XR_wa (opl_call (qnew_spec (li := castI Y.1) 9 (by rw [← castI_iV]; exact (st.rdS 2 rfl).2) (by unfold castI; rw [List.length_map]; exact hl2) (by omega)) rfl (by kernel_rfl)) rfl rfl rfl ?_
      rintro _ hp4 ⟨w4, rfl, hx4, hy4, hz4⟩
      rw [castI_toNat] at hy4
      refine XV rfl rfl rfl ?_
      by_cases hR2 : rightC (castI Y.1)
      ·obtain ⟨t2, rfl, st4⟩ := hy4 hR2
       rw [w9] at st4
       replace st := st.join st4
       simp only [List.cons_append, List.nil_append] at st
       replace st := St.reF [_, _, _, _, _, _] 6 st [1, 0, 2, 3, 4, 5] (by decide)
       simp only [List.map_cons, List.map_nil, getR, List.cons_append, List.nil_append] at st
       rw [show errC (castI Y.1) = 0 by unfold errC; rw [if_pos hR2]]
       rw [if_neg (by rintro (h | h) <;> exact h (by assumption))] at hN
       subst hN
       refine XR_a (op_extract rfl rfl) rfl rfl (XR_a (op_extract rfl rfl) rfl rfl (XR_a (op_nilCheck rfl) rfl rfl ?_))
       first | refine XR_a (op_field0 rfl rfl) rfl rfl ?_ | refine XR_a (op_fieldn rfl rfl) rfl rfl ?_
       refine XR_wn (opl_store_pt st 0 rfl rfl rfl rfl rfl (rfl)) rfl rfl fun _ hp st => ?_
       simp only [List.set_cons_zero, List.set_cons_succ] at st
       refine XA rfl rfl rfl (XR_nil (X_seq (X_reg (XV rfl rfl rfl ?_))))
       refine XR_a (op_neq rfl rfl) rfl rfl ?_
       refine XR_as (.bool false) (congrArg Value.bool (decide_eq_false (by simp))) ?_
       refine XR_nil (X_else rfl (X_skip (X_seq (X_reg (XV rfl rfl rfl (XA rfl rfl rfl (XA rfl rfl rfl (XR_nil ?_))))))))
       refine X_ret (.cons (.tmp rfl) (.cons (.tmp rfl) .nil)) ?_
       refine ⟨_, rfl, fun h9 => absurd rfl h9, fun _ => ⟨ha2, pk, q, t1, t2, rfl, ?_⟩⟩
       exact (St.reF [_, _, _, _, _, _] 6 st [3, 5, 4, 2, 1, 0] (by decide)).tail.tail
      ·obtain rfl := hz4 hR2
       replace st := st.ext hx4
       rw [show errC (castI Y.1) = 13 by unfold errC; rw [if_neg hR2]]
       rw [if_pos (.inr hR2)] at hN
       subst hN
       refine XR_a (op_extract rfl rfl) rfl rfl (XR_a (op_extract rfl rfl) rfl rfl (XR_a (op_nilCheck rfl) rfl rfl ?_))
       first | refine XR_a (op_field0 rfl rfl) rfl rfl ?_ | refine XR_a (op_fieldn rfl rfl) rfl rfl ?_
       refine XR_wn (opl_store_pt st 0 rfl rfl rfl rfl rfl (rfl)) rfl rfl fun _ hp st => ?_
       simp only [List.set_cons_zero, List.set_cons_succ] at st
       refine XA rfl rfl rfl (XR_nil (X_seq (X_reg (XV rfl rfl rfl ?_))))
       refine XR_a (op_neq rfl rfl) rfl rfl ?_
       refine XR_as (.bool true) (congrArg Value.bool (decide_eq_true (by simp))) ?_
       refine XR_nil (X_then rfl (X_seq (X_reg (XV rfl rfl rfl (XA rfl rfl rfl (XA rfl rfl rfl (XR_nil ?_)))))))
       refine X_ret (.cons (.tmp rfl) (.cons (.tmp rfl) .nil)) ?_
       exact ⟨_, rfl, fun _ => ⟨rfl, st.tail.tail.tail.tail.tail⟩, fun h9 => absurd h9 (by decide)⟩
     ·obtain rfl := hz3 hR1
      replace st := st.ext hx3
      replace st := St.reF [_, _, _, _] 4 st [3, 0, 1, 2] (by decide)
      simp only [List.map_cons, List.map_nil, getR, List.cons_append, List.nil_append] at st
      rw [show errC (castI X.1) = 13 by unfold errC; rw [if_neg hR1]]
      rw [if_pos (.inl hR1)] at hN
      subst hN
      refine XR_a (op_extract rfl rfl) rfl rfl (XR_a (op_extract rfl rfl) rfl rfl (XR_a (op_nilCheck rfl) rfl rfl ?_))
      first | refine XR_a (op_field0 rfl rfl) rfl rfl ?_ | refine XR_a (op_fieldn rfl rfl) rfl rfl ?_
      refine XR_wn (opl_store_pt st 0 rfl rfl rfl rfl rfl (rfl)) rfl rfl fun _ hp st => ?_
      simp only [List.set_cons_zero, List.set_cons_succ] at st
      refine XA rfl rfl rfl (XR_nil (X_seq (X_reg (XV rfl rfl rfl ?_))))
      refine XR_a (op_neq rfl rfl) rfl rfl ?_
      refine XR_as (.bool true) (congrArg Value.bool (decide_eq_true (by simp))) ?_
      refine XR_nil (X_then rfl (X_seq (X_reg (XV rfl rfl rfl (XA rfl rfl rfl (XA rfl rfl rfl (XR_nil ?_)))))))
      refine X_ret (.cons (.tmp rfl) (.cons (.tmp rfl) .nil)) ?_
      exact ⟨_, rfl, fun _ => ⟨rfl, st.tail.tail.tail.tail⟩, fun h9 => absurd h9 (by decide)⟩
noncomputable def newE (mt : Int) (l : List UInt8) (size : Int) : Nat := if mt < 0 ∨ 2 < mt then 1 else if size < 0 ∨ 65536 < size ∨ (mt = 0 ∧ (l.length : Int) ≠ size) then 5 else if mt = 0 ∨ mt = 2 then 0 else (codesT (bitsB l) 0).1
noncomputable def mvOf (mt : Int) (l : List UInt8) (size : Int) : Mv := if mt = 0 then mvA l else if mt = 2 then mvS l size.toNat else mvP (codesT (bitsB l) 0).2.1 (codesT (bitsB l) 0).2.2.1 (bitsB l) size.toNat
noncomputable def atOf (mt : Int) (l : List UInt8) : Nat := if mt = 0 ∨ mt = 2 then 0 else (codesT (bitsB l) 0).2.2.2
theorem rdnew_spec {B m c : Nat} {mt size : Int} {A : Option Addr} {l : List UInt8} {F : List Res} {h0 : Heap} (st0 : St B h0 h0 F) (hrB : ∀ h', Low B h0 h' → Rd h' A (l.map byteV)) (hl : l.length = m) (hm : m ≤ 1073741824) (hmc : m ≤ c) :
  Ret Tryz.prog 61 [.int .i64 mt, .slice A m c, .int .i64 size] h0 fun v h' => ∃ w, v = retVal [w, nV (newE mt l size)] ∧ (newE mt l size ≠ 0 → w = .pointer none ∧ St B h0 h' F) ∧
   (newE mt l size = 0 → ∃ pr, ∃ S : Sou B, w = .pointer (some ⟨pr, 0, none⟩) ∧ S.hb = h0 ∧ ∀ gB gE, Giv (mvOf mt l size) (atOf mt l) [] gB gE → St B h0 h' (rdrR S pr gB gE 0 :: F)) := by
 obtain ⟨N, hN⟩ : ∃ N, newE mt l size = N := ⟨_, rfl⟩
 rw [hN]
 unfold newE at hN
 refine ret_of_X Tryz.func61 rfl rfl fun w0 hw0 => ?_
 simp only [argE, Nat.zero_add, Nat.reduceAdd]
 have st := st0
 refine X_seq (X_reg (XA rfl rfl rfl (XA rfl rfl rfl (XR_nil (X_seq (X_block (X_seq (X_reg (XV rfl rfl rfl ?_)))))))))
 refine XR_a (op_lss rfl rfl) rfl rfl ?_
 refine XV rfl rfl rfl ?_
 refine XR_if 13 rfl (fun h => ?_) (fun h => ?_)
 ·rw [if_pos (by omega)] at hN
  refine XR_no rfl rfl (XR_no rfl rfl (XR_a (op_pick_t rfl rfl) rfl rfl (XA rfl rfl rfl (XR_nil (X_then rfl (X_seq (X_reg (XA rfl rfl rfl (XA rfl rfl rfl ?_)))))))))
  refine XR_nil ?_
  refine X_ret (.cons (.tmp rfl) (.cons (.tmp rfl) .nil)) ?_
  subst hN
  exact ⟨_, rfl, fun _ => ⟨rfl, st⟩, fun h => absurd h (by decide)⟩
 ·refine XV rfl rfl rfl ?_
  refine XR_a (op_gtr rfl rfl) rfl rfl ?_
  refine XR_a (op_pick_f rfl rfl) rfl rfl (XA rfl rfl rfl (XR_nil ?_))
  refine X_if rfl (fun h => ?_) (fun h => ?_)
  ·rw [if_pos (by omega)] at hN
   refine X_seq (X_reg (XA rfl rfl rfl (XA rfl rfl rfl (XR_nil ?_))))
   refine X_ret (.cons (.tmp rfl) (.cons (.tmp rfl) .nil)) ?_
   subst hN
   exact ⟨_, rfl, fun _ => ⟨rfl, st⟩, fun h => absurd h (by decide)⟩
  ·rw [if_neg (by omega)] at hN
   refine X_seq (X_reg (XV rfl rfl rfl ?_))
   refine XR_a (op_lss rfl rfl) rfl rfl ?_
   refine XV rfl rfl rfl ?_
   refine XR_if 20 rfl (fun h => ?_) (fun h => ?_)
   ·refine XR_no rfl rfl (XR_no rfl rfl (XR_a (op_pick_t rfl rfl) rfl rfl (XV rfl rfl rfl (XR_no rfl rfl (XR_no rfl rfl (XR_no rfl rfl (XR_no rfl rfl (XR_no rfl rfl (XR_no rfl rfl ?_)))))))))
    refine XR_no rfl rfl (XR_no rfl rfl (XR_a (op_pick_t rfl rfl) rfl rfl (XA rfl rfl rfl (XR_nil (X_then rfl (X_seq (X_reg (XA rfl rfl rfl (XA rfl rfl rfl ?_)))))))))
    refine XR_nil ?_
    refine X_ret (.cons (.tmp rfl) (.cons (.tmp rfl) .nil)) ?_
    rw [if_pos (by omega)] at hN
    subst hN
    exact ⟨_, rfl, fun _ => ⟨rfl, st⟩, fun h => absurd h (by decide)⟩
   ·refine XV rfl rfl rfl ?_
    refine XR_a (op_gtr rfl rfl) rfl rfl ?_
    refine XR_a (op_pick_f rfl rfl) rfl rfl (XV rfl rfl rfl ?_)
    refine XR_if 24 rfl (fun h => ?_) (fun h => ?_)
    ·refine XR_no rfl rfl (XR_no rfl rfl (XR_no rfl rfl (XR_no rfl rfl (XR_no rfl rfl (XR_no rfl rfl (XR_no rfl rfl (XR_no rfl rfl (XR_a (op_pick_t rfl rfl) rfl rfl (XA rfl rfl rfl ?_)))))))))
     refine XR_nil (X_then rfl (X_seq (X_reg (XA rfl rfl rfl (XA rfl rfl rfl (XR_nil ?_))))))
     refine X_ret (.cons (.tmp rfl) (.cons (.tmp rfl) .nil)) ?_
     rw [if_pos (by omega)] at hN
     subst hN
     exact ⟨_, rfl, fun _ => ⟨rfl, st⟩, fun h => absurd h (by decide)⟩
    ·refine XV rfl rfl rfl ?_
     refine XR_a (op_eql rfl rfl) rfl rfl ?_
     refine XV rfl rfl rfl ?_
     refine XR_if 27 rfl (fun h => ?_) (fun h => ?_)
     ·refine XV rfl rfl rfl ?_
      refine XR_a (op_len rfl rfl rfl) rfl rfl ?_
      refine XV rfl rfl rfl ?_
      refine XR_a (op_neq rfl rfl) rfl rfl ?_
      refine XR_a (op_pick_t rfl rfl) rfl rfl (XR_a (op_pick_f rfl rfl) rfl rfl (XA rfl rfl rfl (XR_nil ?_)))
      refine X_if rfl (fun h => ?_) (fun h => ?_)
      ·refine X_seq (X_reg (XA rfl rfl rfl (XA rfl rfl rfl (XR_nil ?_))))
       refine X_ret (.cons (.tmp rfl) (.cons (.tmp rfl) .nil)) ?_
       rw [if_pos (by omega)] at hN
       subst hN
       exact ⟨_, rfl, fun _ => ⟨rfl, st⟩, fun h => absurd h (by decide)⟩
      ·refine X_skip (X_blk (X_seq (X_seq (X_reg (XV rfl rfl rfl (XR_nil (X_block (X_seq (X_reg ?_)))))))))
       refine XR_a (op_eql rfl rfl) rfl rfl ?_
       refine XA rfl rfl rfl (XR_nil ?_)
       refine X_if rfl (fun h => ?_) (fun h => ?_)
       ·have hmt : mt = 0 := by omega
        subst hmt
        rw [if_neg (by omega), if_pos (by omega)] at hN
        subst hN
        refine X_seq (X_reg (XV rfl rfl rfl ?_))
        refine XR_a (op_build (ps := [(0, .slice A m c)]) (cs := #[.slice A m c]) rfl rfl) rfl rfl ?_
        refine XR_wa (opl_bx (cs := [.slice A m c]) rfl rfl) rfl rfl rfl ?_
        rintro _ hp ⟨ps, rfl, hnew⟩
        replace st := st.new hnew
        refine XR_a (op_iface rfl (by kernel_rfl)) rfl rfl ?_
        refine XR_a (op_build (ps := [(0, .iface 164 (.pointer (some ⟨ps, 0, none⟩)))]) (cs := #[.iface 164 (.pointer (some ⟨ps, 0, none⟩)), .slice none 0 0, nV 0, .bool false, nV 0]) rfl rfl) rfl rfl ?_
        refine XR_wa (opl_bx (cs := [.iface 164 (.pointer (some ⟨ps, 0, none⟩)), .slice none 0 0, nV 0, .bool false, nV 0]) rfl rfl) rfl rfl rfl ?_
        rintro _ hp ⟨pr, rfl, hnew⟩
        replace st := st.new hnew
        refine XA rfl rfl rfl (XA rfl rfl rfl (XR_nil ?_))
        refine X_ret (.cons (.tmp rfl) (.cons (.tmp rfl) .nil)) ?_
        refine ⟨_, rfl, fun h => absurd rfl h, fun _ => ⟨pr, souA B h0 ps m c A l hrB hl (by omega), rfl, rfl, fun gB gE g => ?_⟩⟩
        refine St.unrdr (s := ⟨0, [], false, 0, .slice none 0 0⟩) ?_ (.inr ⟨rfl, rfl, rfl, g⟩) (Nat.zero_le _) (g.pre (mvA_ok l) rfl).2
        exact (st.nilrow 5 1).perm (List.Perm.swap _ _ _)
       ·refine X_seq (X_reg ?_)
        refine XR_a (op_eql rfl rfl) rfl rfl ?_
        refine XA rfl rfl rfl (XR_nil ?_)
        refine X_if rfl (fun h => ?_) (fun h => ?_)
        ·have hmt : mt = 2 := by omega
         subst hmt
         rw [if_neg (by omega), if_pos (by omega)] at hN
         subst hN
         obtain ⟨sz, rfl⟩ : ∃ s : Nat, size = s := ⟨size.toNat, by omega⟩
         refine X_seq (X_reg (XV rfl rfl rfl ?_))
         refine XR_wa (opl_call (fnew_spec) rfl (by kernel_rfl)) rfl rfl rfl ?_
         rintro _ hp ⟨pf, rfl, st1⟩
         replace st := st.join st1
         simp only [List.cons_append, List.nil_append] at st
         refine XV rfl rfl rfl ?_
         refine XR_a (op_build (ps := [(0, .pointer (some ⟨pf, 0, none⟩)), (1, nV sz)]) (cs := #[.pointer (some ⟨pf, 0, none⟩), nV sz]) rfl rfl) rfl rfl ?_
         refine XR_wa (opl_bx (cs := [.pointer (some ⟨pf, 0, none⟩), nV sz]) rfl rfl) rfl rfl rfl ?_
         rintro _ hp ⟨ps, rfl, hnew⟩
         replace st := st.new hnew
         refine XR_a (op_iface rfl (by kernel_rfl)) rfl rfl ?_
         refine XR_a (op_build (ps := [(0, .iface 171 (.pointer (some ⟨ps, 0, none⟩)))]) (cs := #[.iface 171 (.pointer (some ⟨ps, 0, none⟩)), .slice none 0 0, nV 0, .bool false, nV 0]) rfl rfl) rfl rfl ?_
         refine XR_wa (opl_bx (cs := [.iface 171 (.pointer (some ⟨ps, 0, none⟩)), .slice none 0 0, nV 0, .bool false, nV 0]) rfl rfl) rfl rfl rfl ?_
         rintro _ hp ⟨pr, rfl, hnew⟩
         replace st := st.new hnew
         refine XA rfl rfl rfl (XA rfl rfl rfl (XR_nil ?_))
         refine X_ret (.cons (.tmp rfl) (.cons (.tmp rfl) .nil)) ?_
         refine ⟨_, rfl, fun h => absurd rfl h, fun _ => ⟨pr, souS B h0 ps pf m c sz A l hrB hl hm hmc (by omega), rfl, rfl, fun gB gE g => ?_⟩⟩
         refine St.unrdr (s := ⟨0, [], false, 0, .slice none 0 0⟩) ?_ (.inr ⟨rfl, rfl, ⟨Nat.zero_le _, Nat.zero_le _⟩, g⟩) (Nat.zero_le _) (g.pre mvS_ok ⟨Nat.zero_le _, Nat.zero_le _⟩).2
         have g1 := St.star.2 (St.reF [_, _, _] 3 st [2, 1, 0] (by decide))
         exact St.reF [_, _, _] 3 (g1.nilrow 5 1) [2, 0, 1] (by decide)
        ·have hmt : mt = 1 := by omega
         subst hmt
         rw [if_neg (by omega), if_neg (by omega)] at hN
         obtain ⟨sz, rfl⟩ : ∃ s : Nat, size = s := ⟨size.toNat, by omega⟩
         have hok := codesT_ok (bs := bitsB l) (a := 0)
         refine X_skip (X_blk (X_seq (X_reg (XV rfl rfl rfl (XV rfl rfl rfl ?_)))))
         refine XR_wa (opl_call (unpack_spec st hrB hl hm) rfl (by kernel_rfl)) rfl rfl rfl ?_
         rintro _ hp ⟨w, rfl, hbad, hgood⟩
         rw [hN] at hbad hgood ⊢
         refine XV rfl rfl rfl (XR_a (op_extract rfl rfl) rfl rfl (XR_a (op_extract rfl rfl) rfl rfl (XA rfl rfl rfl (XA rfl rfl rfl (XR_nil (X_seq (X_seq (X_reg (XV rfl rfl rfl ?_)))))))))
         refine XR_a (op_neq rfl rfl) rfl rfl ?_
         refine XR_nil ?_
         refine X_if rfl (fun h => ?_) (fun h => ?_)
         ·refine X_seq (X_reg (XV rfl rfl rfl (XA rfl rfl rfl (XA rfl rfl rfl (XR_nil ?_)))))
          refine X_ret (.cons (.tmp rfl) (.cons (.tmp rfl) .nil)) ?_
          exact ⟨_, rfl, fun h9 => ⟨rfl, (hbad h9).2⟩, fun h9 => by omega⟩
         ·have hN0 : N = 0 := by omega
          obtain ⟨hat, pk, q, t1, t2, rfl, st⟩ := hgood hN0
          obtain ⟨oka, okb, na, nb⟩ := hok (by omega)
          refine X_skip (X_seq (X_reg (XV rfl rfl rfl ?_)))
          refine XR_a (op_iface rfl (by kernel_rfl)) rfl rfl ?_
          refine XR_a (op_build (ps := [(0, .iface 174 (.pointer (some ⟨pk, 0, none⟩)))]) (cs := #[.iface 174 (.pointer (some ⟨pk, 0, none⟩)), .slice none 0 0, nV 0, .bool false, nV 0]) rfl rfl) rfl rfl ?_
          refine XR_wa (opl_bx (cs := [.iface 174 (.pointer (some ⟨pk, 0, none⟩)), .slice none 0 0, nV 0, .bool false, nV 0]) rfl rfl) rfl rfl rfl ?_
          rintro _ hp ⟨pr, rfl, hnew⟩
          replace st := st.new hnew
          refine XA rfl rfl rfl (XA rfl rfl rfl (XR_nil ?_))
          refine X_ret (.cons (.tmp rfl) (.cons (.tmp rfl) .nil)) ?_
          subst hN0
          have hat : (codesT (bitsB l) 0).2.2.2 ≤ (bitsB l).length := by rw [bitsB_length, hl]; exact hat
          refine ⟨_, rfl, fun h => absurd rfl h, fun _ => ⟨pr, souP B h0 pk q t1 t2 m c sz A l _ _ oka okb na nb hrB hl hm (by omega), rfl, rfl, fun gB gE g => ?_⟩⟩
          refine St.unrdr (s := ⟨(codesT (bitsB l) 0).2.2.2, [], false, 0, .slice none 0 0⟩) ?_ (.inr ⟨rfl, rfl, ⟨hat, Nat.zero_le _⟩, g⟩) (Nat.zero_le _) (g.pre (mvP_ok oka okb) ⟨hat, Nat.zero_le _⟩).2
          have g1 := St.star.2 (St.reF [_, _, _, _, _] 5 st [3, 4, 1, 2, 0] (by decide))
          have g2 := St.star.2 (St.reF [_, _, _, _] 4 g1 [2, 0, 1, 3] (by decide))
          have g3 := St.star.2 (St.reF [_, _, _] 3 g2 [1, 0, 2] (by decide))
          exact St.reF [_, _, _] 3 (g3.nilrow 5 1) [2, 0, 1] (by decide)
     ·refine XR_no rfl rfl (XR_no rfl rfl (XR_no rfl rfl (XR_no rfl rfl (XR_a (op_pick_f rfl rfl) rfl rfl (XR_a (op_pick_f rfl rfl) rfl rfl (XA rfl rfl rfl (XR_nil (X_else rfl (X_skip ?_)))))))))
      refine X_blk (X_seq (X_seq (X_reg (XV rfl rfl rfl (XR_nil (X_block (X_seq (X_reg ?_))))))))
      refine XR_a (op_eql rfl rfl) rfl rfl ?_
      refine XA rfl rfl rfl (XR_nil ?_)
      refine X_if rfl (fun h => ?_) (fun h => ?_)
      ·have hmt : mt = 0 := by omega
       subst hmt
       rw [if_neg (by omega), if_pos (by omega)] at hN
       subst hN
       refine X_seq (X_reg (XV rfl rfl rfl ?_))
       refine XR_a (op_build (ps := [(0, .slice A m c)]) (cs := #[.slice A m c]) rfl rfl) rfl rfl ?_
       refine XR_wa (opl_bx (cs := [.slice A m c]) rfl rfl) rfl rfl rfl ?_
       rintro _ hp ⟨ps, rfl, hnew⟩
       replace st := st.new hnew
       refine XR_a (op_iface rfl (by kernel_rfl)) rfl rfl ?_
       refine XR_a (op_build (ps := [(0, .iface 164 (.pointer (some ⟨ps, 0, none⟩)))]) (cs := #[.iface 164 (.pointer (some ⟨ps, 0, none⟩)), .slice none 0 0, nV 0, .bool false, nV 0]) rfl rfl) rfl rfl ?_
       refine XR_wa (opl_bx (cs := [.iface 164 (.pointer (some ⟨ps, 0, none⟩)), .slice none 0 0, nV 0, .bool false, nV 0]) rfl rfl) rfl rfl rfl ?_
       rintro _ hp ⟨pr, rfl, hnew⟩
       replace st := st.new hnew
       refine XA rfl rfl rfl (XA rfl rfl rfl (XR_nil ?_))
       refine X_ret (.cons (.tmp rfl) (.cons (.tmp rfl) .nil)) ?_
       refine ⟨_, rfl, fun h => absurd rfl h, fun _ => ⟨pr, souA B h0 ps m c A l hrB hl (by omega), rfl, rfl, fun gB gE g => ?_⟩⟩
       refine St.unrdr (s := ⟨0, [], false, 0, .slice none 0 0⟩) ?_ (.inr ⟨rfl, rfl, rfl, g⟩) (Nat.zero_le _) (g.pre (mvA_ok l) rfl).2
       exact (st.nilrow 5 1).perm (List.Perm.swap _ _ _)
      ·refine X_seq (X_reg ?_)
       refine XR_a (op_eql rfl rfl) rfl rfl ?_
       refine XA rfl rfl rfl (XR_nil ?_)
       refine X_if rfl (fun h => ?_) (fun h => ?_)
       ·have hmt : mt = 2 := by omega
        subst hmt
        rw [if_neg (by omega), if_pos (by omega)] at hN
        subst hN
        obtain ⟨sz, rfl⟩ : ∃ s : Nat, size = s := ⟨size.toNat, by omega⟩
        refine X_seq (X_reg (XV rfl rfl rfl ?_))
        refine XR_wa (opl_call (fnew_spec) rfl (by kernel_rfl)) rfl rfl rfl ?_
        rintro _ hp ⟨pf, rfl, st1⟩
        replace st := st.join st1
        simp only [List.cons_append, List.nil_append] at st
        refine XV rfl rfl rfl ?_
        refine XR_a (op_build (ps := [(0, .pointer (some ⟨pf, 0, none⟩)), (1, nV sz)]) (cs := #[.pointer (some ⟨pf, 0, none⟩), nV sz]) rfl rfl) rfl rfl ?_
        refine XR_wa (opl_bx (cs := [.pointer (some ⟨pf, 0, none⟩), nV sz]) rfl rfl) rfl rfl rfl ?_
        rintro _ hp ⟨ps, rfl, hnew⟩
        replace st := st.new hnew
        refine XR_a (op_iface rfl (by kernel_rfl)) rfl rfl ?_
        refine XR_a (op_build (ps := [(0, .iface 171 (.pointer (some ⟨ps, 0, none⟩)))]) (cs := #[.iface 171 (.pointer (some ⟨ps, 0, none⟩)), .slice none 0 0, nV 0, .bool false, nV 0]) rfl rfl) rfl rfl ?_
        refine XR_wa (opl_bx (cs := [.iface 171 (.pointer (some ⟨ps, 0, none⟩)), .slice none 0 0, nV 0, .bool false, nV 0]) rfl rfl) rfl rfl rfl ?_
        rintro _ hp ⟨pr, rfl, hnew⟩
        replace st := st.new hnew
        refine XA rfl rfl rfl (XA rfl rfl rfl (XR_nil ?_))
        refine X_ret (.cons (.tmp rfl) (.cons (.tmp rfl) .nil)) ?_
        refine ⟨_, rfl, fun h => absurd rfl h, fun _ => ⟨pr, souS B h0 ps pf m c sz A l hrB hl hm hmc (by omega), rfl, rfl, fun gB gE g => ?_⟩⟩
        refine St.unrdr (s := ⟨0, [], false, 0, .slice none 0 0⟩) ?_ (.inr ⟨rfl, rfl, ⟨Nat.zero_le _, Nat.zero_le _⟩, g⟩) (Nat.zero_le _) (g.pre mvS_ok ⟨Nat.zero_le _, Nat.zero_le _⟩).2
        have g1 := St.star.2 (St.reF [_, _, _] 3 st [2, 1, 0] (by decide))
        exact St.reF [_, _, _] 3 (g1.nilrow 5 1) [2, 0, 1] (by decide)
       ·have hmt : mt = 1 := by omega
        subst hmt
        rw [if_neg (by omega), if_neg (by omega)] at hN
        obtain ⟨sz, rfl⟩ : ∃ s : Nat, size = s := ⟨size.toNat, by omega⟩
        have hok := codesT_ok (bs := bitsB l) (a := 0)
        refine X_skip (X_blk (X_seq (X_reg (XV rfl rfl rfl (XV rfl rfl rfl ?_)))))
        refine XR_wa (opl_call (unpack_spec st hrB hl hm) rfl (by kernel_rfl)) rfl rfl rfl ?_
        rintro _ hp ⟨w, rfl, hbad, hgood⟩
        rw [hN] at hbad hgood ⊢
        refine XV rfl rfl rfl (XR_a (op_extract rfl rfl) rfl rfl (XR_a (op_extract rfl rfl) rfl rfl (XA rfl rfl rfl (XA rfl rfl rfl (XR_nil (X_seq (X_seq (X_reg (XV rfl rfl rfl ?_)))))))))
        refine XR_a (op_neq rfl rfl) rfl rfl ?_
        refine XR_nil ?_
        refine X_if rfl (fun h => ?_) (fun h => ?_)
        ·refine X_seq (X_reg (XV rfl rfl rfl (XA rfl rfl rfl (XA rfl rfl rfl (XR_nil ?_)))))
         refine X_ret (.cons (.tmp rfl) (.cons (.tmp rfl) .nil)) ?_
         exact ⟨_, rfl, fun h9 => ⟨rfl, (hbad h9).2⟩, fun h9 => by omega⟩
        ·have hN0 : N = 0 := by omega
         obtain ⟨hat, pk, q, t1, t2, rfl, st⟩ := hgood hN0
         obtain ⟨oka, okb, na, nb⟩ := hok (by omega)
         refine X_skip (X_seq (X_reg (XV rfl rfl rfl ?_)))
         refine XR_a (op_iface rfl (by kernel_rfl)) rfl rfl ?_
         refine XR_a (op_build (ps := [(0, .iface 174 (.pointer (some ⟨pk, 0, none⟩)))]) (cs := #[.iface 174 (.pointer (some ⟨pk, 0, none⟩)), .slice none 0 0, nV 0, .bool false, nV 0]) rfl rfl) rfl rfl ?_
         refine XR_wa (opl_bx (cs := [.iface 174 (.pointer (some ⟨pk, 0, none⟩)), .slice none 0 0, nV 0, .bool false, nV 0]) rfl rfl) rfl rfl rfl ?_
         rintro _ hp ⟨pr, rfl, hnew⟩
         replace st := st.new hnew
         refine XA rfl rfl rfl (XA rfl rfl rfl (XR_nil ?_))
         refine X_ret (.cons (.tmp rfl) (.cons (.tmp rfl) .nil)) ?_
         subst hN0
         have hat : (codesT (bitsB l) 0).2.2.2 ≤ (bitsB l).length := by rw [bitsB_length, hl]; exact hat
         refine ⟨_, rfl, fun h => absurd rfl h, fun _ => ⟨pr, souP B h0 pk q t1 t2 m c sz A l _ _ oka okb na nb hrB hl hm (by omega), rfl, rfl, fun gB gE g => ?_⟩⟩
         refine St.unrdr (s := ⟨(codesT (bitsB l) 0).2.2.2, [], false, 0, .slice none 0 0⟩) ?_ (.inr ⟨rfl, rfl, ⟨hat, Nat.zero_le _⟩, g⟩) (Nat.zero_le _) (g.pre (mvP_ok oka okb) ⟨hat, Nat.zero_le _⟩).2
         have g1 := St.star.2 (St.reF [_, _, _, _, _] 5 st [3, 4, 1, 2, 0] (by decide))
         have g2 := St.star.2 (St.reF [_, _, _, _] 4 g1 [2, 0, 1, 3] (by decide))
         have g3 := St.star.2 (St.reF [_, _, _] 3 g2 [1, 0, 2] (by decide))
         exact St.reF [_, _, _] 3 (g3.nilrow 5 1) [2, 0, 1] (by decide)
end Go.Bn
end

section
set_option linter.unusedVariables false
set_option linter.unusedSimpArgs false
set_option maxHeartbeats 4000000
set_option maxRecDepth 20000
namespace Go.Bn
open Go Proofs
def partG (N : Nat) (gB : List UInt8) (gE : Nat) (fr n : Int) : List UInt8 × Nat :=
  if fr < 0 ∨ n < 0 then ([], 1) else if N ≠ 0 then ([], N) else if n ≤ (gB.length : Int) - min fr gB.length then ((gB.drop (min fr.toNat gB.length)).take n.toNat, 0) else if gE ≠ 0 then ([], gE) else (gB.drop (min fr.toNat gB.length), 0)
end Go.Bn
end

section
set_option linter.unusedVariables false
set_option linter.unusedSimpArgs false
set_option maxHeartbeats 4000000
set_option maxRecDepth 20000
namespace Go.Bn
open Go Proofs
theorem giv_ex {mt size : Int} {l : List UInt8} (h : newE mt l size = 0) : ∃ gB gE, Giv (mvOf mt l size) (atOf mt l) [] gB gE := by
 unfold newE at h
 unfold mvOf atOf
 split at h
 ·cases h
 ·split at h
  ·cases h
  ·by_cases h0 : mt = 0
   ·rw [if_pos h0, if_pos (.inl h0)]
    exact Giv.all (mvA_ok l) _ _ _ (Nat.le_refl _) rfl
   ·by_cases h2 : mt = 2
    ·rw [if_neg h0, if_pos h2, if_pos (.inr h2)]
     exact Giv.all (mvS_ok (l := l) (size := size.toNat)) _ _ _ (Nat.le_refl _) ⟨Nat.zero_le _, Nat.zero_le _⟩
    ·rw [if_neg (by omega)] at h
     obtain ⟨oka, okb, na, nb⟩ := codesT_ok h
     rw [if_neg h0, if_neg h2, if_neg (by omega)]
     exact Giv.all (mvP_ok oka okb) _ _ _ (Nat.le_refl _) ⟨codesT_le h, Nat.zero_le _⟩
@[reducible] def payC (mt size : Int) (A : Option Addr) (m c : Nat) : List Value := [.int .i64 mt, .slice A m c, .int .i64 size]
theorem lives36 (h0 : Heap) : Ret Tryz.prog 30 [] h0 fun v h' => v = .bool true ∧ Ext h0 h' := by
 have hN : newE 0 [97, 98, 99] 3 = 0 := by unfold newE; rw [if_neg (by omega), if_neg (by simp), if_pos (by omega)]
 have hG : Giv (mvOf 0 [97, 98, 99] 3) (atOf 0 [97, 98, 99]) [] [97, 98, 99] 0 := by unfold mvOf; rw [if_pos rfl]; exact Giv.over (mv := mvA [97, 98, 99]) rfl
 have k1 : nextK [97, 98, 99] 0 2 = 2 := by decide
 have k2 : nextK [97, 98, 99] 2 2 = 1 := by decide
 have k3 : nextK [97, 98, 99] 3 2 = 0 := by decide
 have e1 : nextE [97, 98, 99] 0 0 2 = 0 := by decide
 have e2 : nextE [97, 98, 99] 0 2 2 = 0 := by decide
 have e3 : nextE [97, 98, 99] 0 3 2 = 0 := by decide
 refine ret_of_X Tryz.func30 rfl rfl fun w0 hw0 => ?_
 simp only [argE, Nat.zero_add, Nat.reduceAdd]
 have st := St.start h0
 refine X_seq (X_reg (XA rfl rfl rfl (XR_nil (X_seq (X_reg ?_)))))
 refine XR_wa (opl_lits [.int .u8 97, .int .u8 98, .int .u8 99] rfl rfl rfl rfl (by kernel_rfl) rfl) rfl rfl rfl ?_
 rintro v2 hp hnew
 replace st := st.new hnew
 obtain ⟨gA, nA, cA, rfl, hlA, _⟩ := st.row0 0 rfl (by simp)
 have hlA : nA = 3 := by simpa using hlA.symm
 subst hlA
 refine XR_wa (opl_bytesLit st 0 rfl rfl rfl) rfl rfl rfl ?_
 rintro _ hp ⟨rfl, st⟩
 have hx0 := st.low
 obtain ⟨_, _, _, he, _, hcA, _, hrdA⟩ := st.row 0 rfl
 cases he
 have hrdA : Rd hp (some ⟨gA, 0, none⟩) (([97, 98, 99] : List UInt8).map byteV) := hrdA
 refine XR_wa (opl_call (rdnew_spec (l := [97, 98, 99]) (m := 3) (St.start hp) (fun h' hh => hrdA.ext hh) rfl (by omega) hcA) rfl (by kernel_rfl)) rfl rfl rfl ?_
 rintro _ hp1 ⟨w, rfl, hbad, hgood⟩
 obtain ⟨pr, S, rfl, hSb, hst⟩ := hgood hN
 have st := hst _ _ hG
 rw [hN]
 clear hbad hgood hst
 refine XV rfl rfl rfl (XR_a (op_extract rfl rfl) rfl rfl (XR_a (op_extract rfl rfl) rfl rfl (XA rfl rfl rfl (XA rfl rfl rfl (XR_nil (X_seq (X_seq (X_reg (XV rfl rfl rfl ?_)))))))))
 refine XR_a (op_neq rfl rfl) rfl rfl ?_
 refine XR_as (.bool false) (congrArg Value.bool (decide_eq_false (by simp))) ?_
 refine XV rfl rfl rfl (XV rfl rfl rfl ?_)
 refine XR_a (op_ptr_nil rfl rfl rfl) rfl rfl ?_
 refine XR_a (op_pick_f rfl rfl) rfl rfl (XR_nil (X_else rfl (X_skip (X_seq (X_reg (XV rfl rfl rfl ?_))))))
 refine XR_wa (opl_call (rnext_spec st.here (by rw [hSb]; exact st.low) (n := 2) (by simp only [inK]; omega)) rfl (by kernel_rfl)) rfl rfl rfl ?_
 rintro _ hp2 ⟨w1, rfl, st2⟩
 rw [k1, e1] at *
 replace st := (st.trans st2).perm (List.Perm.swap _ _ _)
 clear st2
 refine XV rfl rfl rfl (XR_a (op_extract rfl rfl) rfl rfl (XR_a (op_extract rfl rfl) rfl rfl (XA rfl rfl rfl (XA rfl rfl rfl (XR_nil (X_seq (X_reg (XV rfl rfl rfl ?_))))))))
 refine XR_wa (opl_call (rnext_spec st.here (by rw [hSb]; exact st.low) (n := 2) (by simp only [inK]; omega)) rfl (by kernel_rfl)) rfl rfl rfl ?_
 rintro _ hp3 ⟨w2, rfl, st2⟩
 rw [Nat.zero_add, k2, e2] at *
 replace st := (st.trans st2).perm (List.Perm.swap _ _ _)
 clear st2
 refine XV rfl rfl rfl (XR_a (op_extract rfl rfl) rfl rfl (XR_a (op_extract rfl rfl) rfl rfl (XA rfl rfl rfl (XA rfl rfl rfl (XR_nil (X_seq (X_reg (XV rfl rfl rfl ?_))))))))
 refine XR_wa (opl_call (rnext_spec st.here (by rw [hSb]; exact st.low) (n := 2) (by simp only [inK]; omega)) rfl (by kernel_rfl)) rfl rfl rfl ?_
 rintro _ hp4 ⟨w3, rfl, st2⟩
 rw [k3, e3] at *
 replace st := (st.trans st2).perm (List.Perm.swap _ _ _)
 clear st2
 obtain ⟨A3, n3, c3, rfl, hl3, _⟩ := st.row 1 rfl
 obtain ⟨A2, n2, c2, rfl, hl2, _⟩ := st.row 2 rfl
 obtain ⟨A1, n1, c1, rfl, hl1, _⟩ := st.row 3 rfl
 have hl1 : n1 = 2 := by simpa using hl1.symm
 have hl2 : n2 = 1 := by simpa using hl2.symm
 have hl3 : n3 = 0 := by simpa using hl3.symm
 subst hl1 hl2 hl3
 refine XV rfl rfl rfl (XR_a (op_extract rfl rfl) rfl rfl (XR_a (op_extract rfl rfl) rfl rfl (XA rfl rfl rfl (XA rfl rfl rfl (XR_nil (X_seq (X_reg (XV rfl rfl rfl ?_))))))))
 refine XR_a (op_str (l := [97, 98]) (st.rdS 3 rfl).2 rfl rfl rfl rfl rfl) rfl rfl ?_
 refine XR_a (op_eqlS rfl rfl) rfl rfl ?_
 refine XR_as (.bool true) rfl ?_
 refine XV rfl rfl rfl (XV rfl rfl rfl ?_)
 refine XR_a (op_str (l := [99]) (st.rdS 2 rfl).2 rfl rfl rfl rfl rfl) rfl rfl ?_
 refine XR_a (op_eqlS rfl rfl) rfl rfl ?_
 refine XR_as (.bool true) rfl ?_
 refine XR_a (op_pick_t rfl rfl) rfl rfl (XV rfl rfl rfl (XV rfl rfl rfl ?_))
 refine XR_a (op_len rfl rfl rfl) rfl rfl ?_
 refine XR_a (op_eql rfl rfl) rfl rfl ?_
 refine XR_as (.bool true) (congrArg Value.bool (decide_eq_true (by simp))) ?_
 refine XR_a (op_pick_t rfl rfl) rfl rfl (XV rfl rfl rfl (XV rfl rfl rfl ?_))
 refine XR_a (op_eql rfl rfl) rfl rfl ?_
 refine XR_as (.bool true) (congrArg Value.bool (decide_eq_true (by simp))) ?_
 refine XR_a (op_pick_t rfl rfl) rfl rfl (XV rfl rfl rfl (XV rfl rfl rfl ?_))
 refine XR_a (op_eql rfl rfl) rfl rfl ?_
 refine XR_as (.bool true) (congrArg Value.bool (decide_eq_true (by simp))) ?_
 refine XR_a (op_pick_t rfl rfl) rfl rfl (XV rfl rfl rfl (XV rfl rfl rfl ?_))
 refine XR_a (op_eql rfl rfl) rfl rfl ?_
 refine XR_as (.bool true) (congrArg Value.bool (decide_eq_true (by simp))) ?_
 refine XR_a (op_pick_t rfl rfl) rfl rfl (XV rfl rfl rfl (XV rfl rfl rfl ?_))
 refine XR_wa (opl_call (rdone_spec st.here (by rw [hSb]; exact st.low)) rfl (by kernel_rfl)) rfl rfl rfl ?_
 rintro _ hp5 ⟨rfl, st2⟩
 replace st := st.trans st2
 refine XR_a (op_pick_t rfl rfl) rfl rfl (XA rfl rfl rfl (XR_nil ?_))
 refine X_ret (.cons (.tmp rfl) .nil) ?_
 exact ⟨rfl, Ext.trans hx0 st.low⟩
theorem great36 (mt size : Int) (A : Option Addr) (m c : Nat) (h0 : Heap) : Ret Tryz.prog 29 [.agg (payC mt size A m c).toArray] h0 fun v h' => v = .bool (decide (1500 < m)) ∧ Ext h0 h' := by
 refine ret_of_X Tryz.func29 rfl rfl fun w0 hw0 => ?_
 simp only [argE, Nat.zero_add, Nat.reduceAdd]
 have st := St.start h0
 refine X_seq (X_reg ?_)
 refine XR_wa (opl_bx (cs := payC mt size A m c) rfl rfl) rfl rfl rfl ?_
 rintro _ hp ⟨p, rfl, hnew⟩
 replace st := st.new hnew
 refine XA rfl rfl rfl (XR_nil (X_seq (X_reg ?_)))
 first | refine XR_a (op_field0 rfl rfl) rfl rfl ?_ | refine XR_a (op_fieldn rfl rfl) rfl rfl ?_
 refine XR_a (op_ld (st.cell 0 (i := 1) rfl rfl) rfl rfl rfl) rfl rfl ?_
 refine XR_a (op_len rfl rfl rfl) rfl rfl ?_
 refine XR_a (op_gtr rfl rfl) rfl rfl ?_
 refine XA rfl rfl rfl (XR_nil ?_)
 refine X_ret (.cons (.tmp rfl) .nil) ?_
 exact ⟨congrArg Value.bool (decide_eq_decide.2 ⟨fun hh => by omega, fun hh => by omega⟩), st.low⟩
def wholeG (N : Nat) (gB : List UInt8) (gE : Nat) (step : Int) : List UInt8 × Nat := if step < 1 then ([], 1) else if N ≠ 0 then ([], N) else if gE ≠ 0 then ([], gE) else (gB, 0)
theorem rwhole_spec {B m c : Nat} {mt size step : Int} {A : Option Addr} {l gB : List UInt8} {gE : Nat} {F : List Res} {h0 : Heap} (st0 : St B h0 h0 F) (hrB : ∀ h', Low B h0 h' → Rd h' A (l.map byteV)) (hl : l.length = m) (hm : m ≤ 1073741824) (hmc : m ≤ c) (hstep : inK .i64 step)
  (hG : newE mt l size = 0 → Giv (mvOf mt l size) (atOf mt l) [] gB gE) :
  Ret Tryz.prog 31 [.int .i64 mt, .slice A m c, .int .i64 size, .int .i64 step] h0 fun v h' => ∃ w, v = retVal [w, nV (wholeG (newE mt l size) gB gE step).2] ∧ St B h0 h' (row 5 1 w ((wholeG (newE mt l size) gB gE step).1.map byteV) :: F) := by
 obtain ⟨W, hW⟩ : ∃ W, wholeG (newE mt l size) gB gE step = W := ⟨_, rfl⟩
 rw [hW]
 unfold wholeG at hW
 refine ret_of_X Tryz.func31 rfl rfl fun w0 hw0 => ?_
 simp only [argE, Nat.zero_add, Nat.reduceAdd]
 have st := st0
 refine X_seq (X_reg (XA rfl rfl rfl (XA rfl rfl rfl (XR_nil (X_seq (X_seq (X_reg (XV rfl rfl rfl ?_))))))))
 refine XR_a (op_lss rfl rfl) rfl rfl ?_
 refine XR_nil ?_
 refine X_if rfl (fun h => ?_) (fun h => ?_)
 ·refine X_seq (X_reg (XA rfl rfl rfl (XA rfl rfl rfl (XR_nil ?_))))
  refine X_ret (.cons (.tmp rfl) (.cons (.tmp rfl) .nil)) ?_
  rw [if_pos (by omega)] at hW
  subst hW
  exact ⟨_, rfl, st.nilrow 5 1⟩
 ·refine X_skip (X_seq (X_reg (XV rfl rfl rfl (XV rfl rfl rfl (XV rfl rfl rfl ?_)))))
  refine XR_wa (opl_call (rdnew_spec st hrB hl hm hmc) rfl (by kernel_rfl)) rfl rfl rfl ?_
  rintro _ hp1 ⟨w, rfl, hbad, hgood⟩
  rw [if_neg (by omega)] at hW
  refine XV rfl rfl rfl (XR_a (op_extract rfl rfl) rfl rfl (XR_a (op_extract rfl rfl) rfl rfl (XA rfl rfl rfl (XA rfl rfl rfl (XR_nil (X_seq (X_seq (X_reg (XV rfl rfl rfl ?_)))))))))
  refine XR_a (op_neq rfl rfl) rfl rfl ?_
  refine XR_nil ?_
  refine X_if rfl (fun h => ?_) (fun h => ?_)
  ·refine X_seq (X_reg (XV rfl rfl rfl (XA rfl rfl rfl (XA rfl rfl rfl (XR_nil ?_)))))
   refine X_ret (.cons (.tmp rfl) (.cons (.tmp rfl) .nil)) ?_
   obtain ⟨rfl, st⟩ := hbad (by omega)
   rw [if_pos (by omega)] at hW
   subst hW
   exact ⟨_, rfl, st.nilrow 5 1⟩
  ·refine X_skip (X_seq (X_reg (XA rfl rfl rfl (XR_nil (X_block ?_)))))
   rw [if_neg (by omega)] at hW
   obtain ⟨pr, S, rfl, hSb, hst⟩ := hgood (by omega)
   have st := (hst _ _ (hG (by omega))).nilrow 5 1
   clear hbad hgood hst
   refine X_loop (fun s => gB.length - s.1) (fun s => [(3, .int .i64 step), (10, .pointer (some ⟨pr, 0, none⟩)), (12, s.2)])
    (fun (s : Nat × Value) hp => s.1 ≤ gB.length ∧ St B h0 hp (row 5 1 s.2 ((gB.take s.1).map byteV) :: rdrR S pr gB gE s.1 :: F))
    (0, _) (.cons rfl (.cons rfl (.cons rfl (.nil _)))) ⟨Nat.zero_le _, st⟩ ?_
   clear st
   rintro ⟨told, v⟩ hp ⟨ht, st⟩
   simp only at ht st ⊢
   obtain ⟨A9, n9, c9, rfl, hl9, _⟩ := st.row 0 rfl
   have hgl : gB.length ≤ 1048576 := by
    obtain ⟨_, _, _, h3, _⟩ := St.rdr (st.perm (List.Perm.swap _ _ _))
    have := S.hlim
    omega
   replace st := st.perm (List.Perm.swap _ _ _)
   obtain ⟨K, hK⟩ : ∃ K, nextK gB told step = K := ⟨_, rfl⟩
   obtain ⟨X, hX⟩ : ∃ X, nextE gB gE told step = X := ⟨_, rfl⟩
   have hK2 := hK
   have hX2 := hX
   unfold nextK at hK2
   unfold nextE at hX2
   rw [if_neg (by omega)] at hK2 hX2
   refine X_block (X_seq (X_reg (XV rfl rfl rfl (XV rfl rfl rfl ?_))))
   refine XR_wa (opl_call (rnext_spec st.here (by rw [hSb]; exact st.low) hstep) rfl (by kernel_rfl)) rfl rfl rfl ?_
   rintro _ hp2 ⟨w1, rfl, st2⟩
   rw [hK, hX] at *
   replace st := st.trans st2
   clear st2
   obtain ⟨A1, n1, c1, rfl, hl1, _, _, hrd1⟩ := st.row 0 rfl
   rw [List.length_map, List.length_take, List.length_drop, Nat.mul_one] at hl1
   refine XV rfl rfl rfl (XR_a (op_extract rfl rfl) rfl rfl (XR_a (op_extract rfl rfl) rfl rfl (XA rfl rfl rfl (XA rfl rfl rfl (XR_nil (X_seq (X_block (X_seq (X_reg ?_)))))))))
   refine XV rfl rfl rfl ?_
   refine XR_a (op_neq rfl rfl) rfl rfl ?_
   refine XA rfl rfl rfl (XR_nil ?_)
   refine X_if rfl (fun h => ?_) (fun h => ?_)
   ·refine X_seq (X_reg (XV rfl rfl rfl (XA rfl rfl rfl (XA rfl rfl rfl (XR_nil ?_)))))
    refine X_ret (.cons (.tmp rfl) (.cons (.tmp rfl) .nil)) ?_
    have hle : gB.length ≤ told := by
     refine Classical.byContradiction fun hn => ?_
     rw [if_neg hn] at hX2
     omega
    rw [if_pos hle] at hX2
    rw [if_pos (by omega)] at hW
    subst hW hX2
    exact ⟨_, rfl, (St.reF [_, _, _] 3 st [0, 1, 2] (by decide)).tail.tail.tail.nilrow 5 1⟩
   ·refine X_seq (X_reg (XV rfl rfl rfl ?_))
    refine XR_a (op_len rfl rfl rfl) rfl rfl ?_
    refine XR_a (op_eql rfl rfl) rfl rfl ?_
    refine XA rfl rfl rfl (XR_nil ?_)
    refine X_if rfl (fun h => ?_) (fun h => ?_)
    ·refine X_seq (X_reg (XV rfl rfl rfl (XA rfl rfl rfl (XA rfl rfl rfl (XR_nil ?_)))))
     refine X_ret (.cons (.tmp rfl) (.cons (.tmp rfl) .nil)) ?_
     have hle : gB.length ≤ told := by omega
     rw [if_pos hle] at hX2
     rw [if_neg (by omega)] at hW
     subst hW
     have e : gB.take told = gB := List.take_of_length_le (by omega)
     rw [e] at st
     exact ⟨_, rfl, (St.reF [_, _, _] 3 st [0, 1, 2] (by decide)).tail.tail⟩
    ·refine X_skip (X_blk (X_reg (XV rfl rfl rfl (XV rfl rfl rfl ?_))))
     refine XR_wa (opl_append st 2 rfl (hrd1) (by simp; omega) (one_bytes _) (by simp; omega) rfl rfl rfl rfl rfl rfl rfl) rfl rfl rfl fun v hp st => ?_
     simp only [List.set_cons_zero, List.set_cons_succ] at st
     rw [← List.map_append, show gB.take told ++ (gB.drop told).take K = gB.take (told + K) by rw [← List.take_add]] at st
     refine XA rfl rfl rfl (XR_nil (X_blk ?_))
     exact X_again (told + K, _) (.cons rfl (.cons rfl (.cons rfl (.nil _)))) ⟨by simp only; omega, (St.reF [_, _, _] 3 st [0, 2, 1] (by decide)).tail⟩ (by simp only; omega)
end Go.Bn
end

section
set_option linter.unusedVariables false
set_option linter.unusedSimpArgs false
namespace Go.Bn
def likeM : List UInt8 → List UInt8 → Nat
  | x :: xs, y :: ys => if x = y then likeM xs ys + 1 else 0
  | _, _ => 0
theorem likeM_le : ∀ (x y : List UInt8), likeM x y ≤ x.length ∧ likeM x y ≤ y.length
 | [], _ => by simp [likeM]
 | _ :: _, [] => by simp [likeM]
 | x :: xs, y :: ys => by
  have := likeM_le xs ys
  rw [likeM]
  split
  ·simp only [List.length_cons]; omega
  ·simp
def lenM (b : List UInt8) (a d : Nat) : Nat := if d = 0 ∨ 32768 < d ∨ a < d then 0 else min 258 (likeM (b.drop a) (b.drop (a - d)))
theorem lenM_le (b : List UInt8) (a d : Nat) : lenM b a d ≤ 258 := by unfold lenM; split <;> omega
theorem lenM_fit (b : List UInt8) (a d : Nat) : lenM b a d ≤ b.length - a := by
 unfold lenM
 split
 ·omega
 ·have := (likeM_le (b.drop a) (b.drop (a - d))).1
  rw [List.length_drop] at this
  omega
theorem lenM_in {b : List UInt8} {a d : Nat} (h : lenM b a d ≠ 0) : 1 ≤ d ∧ d ≤ 32768 ∧ d ≤ a ∧ a < b.length := by
 have := lenM_fit b a d
 unfold lenM at h
 split at h
 ·exact absurd rfl h
 ·have h2 := lenM_fit b a d
  unfold lenM at h2
  rw [if_neg (by assumption)] at h2
  omega
theorem likeM_at {b : List UInt8} {i j : Nat} (hi : i < b.length) (hj : j < b.length) : likeM (b.drop i) (b.drop j) = if b[i] = b[j] then likeM (b.drop (i + 1)) (b.drop (j + 1)) + 1 else 0 := by
 rw [List.drop_eq_getElem_cons hi, List.drop_eq_getElem_cons hj, likeM]
theorem likeM_out {b y : List UInt8} {i : Nat} (hi : b.length ≤ i) : likeM (b.drop i) y = 0 := by
 rw [List.drop_of_length_le hi]; cases y <;> rfl
theorem likeM_get : ∀ (x y : List UInt8) (i : Nat), i < likeM x y → x[i]? = y[i]? ∧ i < x.length ∧ i < y.length
 | [], _, i, h => by simp [likeM] at h
 | _ :: _, [], i, h => by simp [likeM] at h
 | x :: xs, y :: ys, i, h => by
  rw [likeM] at h
  split at h
  ·rename_i e
   cases i with
   | zero => simp [e]
   | succ i =>
    obtain ⟨h1, h2, h3⟩ := likeM_get xs ys i (by omega)
    exact ⟨by simpa using h1, by simp; omega, by simp; omega⟩
  ·omega
theorem lenM_get {b : List UInt8} {a d i : Nat} (h : i < lenM b a d) : b[a + i]? = b[a + i - d]? ∧ a + i < b.length ∧ 1 ≤ d ∧ d ≤ a := by
 have hn := lenM_in (b := b) (a := a) (d := d) (by omega)
 unfold lenM at h
 rw [if_neg (by omega)] at h
 obtain ⟨h1, h2, _⟩ := likeM_get _ _ i (Nat.lt_of_lt_of_le h (Nat.min_le_right _ _))
 rw [List.getElem?_drop, List.getElem?_drop] at h1
 rw [List.length_drop] at h2
 exact ⟨by rw [h1, show a - d + i = a + i - d by omega], by omega, by omega, by omega⟩
def keyM (b : List UInt8) (i : Nat) : Nat := (b.getD i 0).toNat + 256 * (b.getD (i + 1) 0).toNat + 65536 * (b.getD (i + 2) 0).toNat
theorem getD_at {b : List UInt8} {i : Nat} (h : i < b.length) : b.getD i 0 = b[i] := by simp [List.getD, h]
theorem keyM_len {b : List UInt8} {a d : Nat} (ha : a + 3 ≤ b.length) (h1 : 1 ≤ d) (h2 : d ≤ a) (h3 : d ≤ 32768) : keyM b (a - d) = keyM b a ↔ 3 ≤ lenM b a d := by
 unfold lenM
 rw [if_neg (by omega), likeM_at (i := a) (j := a - d) (by omega) (by omega), likeM_at (i := a + 1) (j := a - d + 1) (by omega) (by omega), likeM_at (i := a + 1 + 1) (j := a - d + 1 + 1) (by omega) (by omega)]
 unfold keyM
 rw [getD_at (show a - d < b.length by omega), getD_at (show a < b.length by omega), getD_at (show a - d + 1 < b.length by omega), getD_at (show a + 1 < b.length by omega), getD_at (show a - d + 2 < b.length by omega), getD_at (show a + 2 < b.length by omega)]
 have e1 : ∀ x y : UInt8, x.toNat = y.toNat ↔ x = y := fun x y => ⟨fun h => UInt8.toNat_inj.1 h, fun h => h ▸ rfl⟩
 have l1 := (b[a - d]'(by omega)).toNat_lt
 have l2 := (b[a - d + 1]'(by omega)).toNat_lt
 have l3 := (b[a - d + 2]'(by omega)).toNat_lt
 have l4 := (b[a]'(by omega)).toNat_lt
 have l5 := (b[a + 1]'(by omega)).toNat_lt
 have l6 := (b[a + 2]'(by omega)).toNat_lt
 have q1 := e1 (b[a]'(by omega)) (b[a - d]'(by omega))
 have q2 := e1 (b[a + 1]'(by omega)) (b[a - d + 1]'(by omega))
 have q3 := e1 (b[a + 1 + 1]'(by omega)) (b[a - d + 1 + 1]'(by omega))
 simp only [show a + 1 + 1 = a + 2 by omega, show a - d + 1 + 1 = a - d + 2 by omega] at *
 constructor
 ·intro h
  rw [if_pos (q1.1 (by omega)), if_pos (q2.1 (by omega)), if_pos (q3.1 (by omega))]
  omega
 ·intro h
  split at h
  ·rename_i g1
   split at h
   ·rename_i g2
    split at h
    ·rename_i g3
     rw [g1, g2, g3]
    ·omega
   ·omega
  ·omega
def lastB (p : Nat → Bool) : Nat → Option Nat
  | 0 => none
  | n + 1 => if p n = true then some n else lastB p n
def downs (p : Nat → Bool) : Nat → List Nat
  | 0 => []
  | n + 1 => if p n = true then n :: downs p n else downs p n
theorem downs_none {p : Nat → Bool} : ∀ {n : Nat}, lastB p n = none → downs p n = []
 | 0, _ => rfl
 | n + 1, h => by
  rw [lastB] at h
  split at h
  ·cases h
  ·rename_i hp; rw [downs, if_neg hp]; exact downs_none h
theorem downs_some {p : Nat → Bool} {q : Nat} : ∀ {n : Nat}, lastB p n = some q → downs p n = q :: downs p q ∧ q < n ∧ p q = true
 | 0, h => by cases h
 | n + 1, h => by
  rw [lastB] at h
  split at h
  ·rename_i hp; cases h; rw [downs, if_pos hp]; exact ⟨rfl, by omega, hp⟩
  ·rename_i hp
   obtain ⟨h1, h2, h3⟩ := downs_some h
   rw [downs, if_neg hp]; exact ⟨h1, by omega, h3⟩
theorem downs_lt {p : Nat → Bool} : ∀ {n q : Nat}, q ∈ downs p n → q < n ∧ p q = true
 | 0, q, h => by simp [downs] at h
 | n + 1, q, h => by
  rw [downs] at h
  split at h
  ·rename_i hp
   rcases List.mem_cons.1 h with rfl | h
   ·exact ⟨by omega, hp⟩
   ·have := downs_lt h; exact ⟨by omega, this.2⟩
  ·have := downs_lt h; exact ⟨by omega, this.2⟩
def lastM (b : List UInt8) (u k : Nat) : Option Nat := lastB (fun j => keyM b j == k) u
def prevM (b : List UInt8) (i : Nat) : Option Nat := lastM b i (keyM b i)
theorem lastM_succ (b : List UInt8) (u k : Nat) : lastM b (u + 1) k = if keyM b u = k then some u else lastM b u k := by
 unfold lastM
 rw [lastB]
 by_cases h : keyM b u = k
 ·rw [if_pos h, if_pos (by simpa using h)]
 ·rw [if_neg h, if_neg (by simpa using h)]
theorem lastM_lt {b : List UInt8} {u k q : Nat} (h : lastM b u k = some q) : q < u ∧ keyM b q = k := by
 have := downs_some h
 exact ⟨this.2.1, by simpa using this.2.2⟩
def optI : Option Nat → Int
  | none => -1
  | some q => q
def walkM (b : List UInt8) (a : Nat) : Option Nat → List Nat
  | none => []
  | some q => q :: downs (fun j => keyM b j == keyM b a) q
theorem walk_start (b : List UInt8) (a : Nat) : walkM b a (prevM b a) = downs (fun j => keyM b j == keyM b a) a := by
 cases h : prevM b a with
 | none => exact (downs_none h).symm
 | some q => exact (downs_some h).1.symm
theorem walk_next {b : List UInt8} {a q : Nat} (hq : keyM b q = keyM b a) : walkM b a (some q) = q :: walkM b a (prevM b q) := by
 rw [walkM]
 have : prevM b q = lastB (fun j => keyM b j == keyM b a) q := by unfold prevM lastM; rw [hq]
 congr 1
 cases h : prevM b q with
 | none => rw [this] at h; exact downs_none h
 | some r => rw [this] at h; exact (downs_some h).1
def candN (b : List UInt8) (a : Nat) : Nat → List Nat
  | 0 => []
  | n + 1 => if a - n ≤ 32768 then (if 3 ≤ lenM b a (a - n) then (a - n) :: candN b a n else candN b a n) else []
def cands (b : List UInt8) (a : Nat) : List Nat := candN b a a
def tellM (a : Nat) (l : List Nat) : List Nat := (l.map (a - ·)).takeWhile (fun d => decide (d ≤ 32768))
theorem tellM_none (a : Nat) : ∀ (l : List Nat), (∀ j ∈ l, 32768 < a - j) → tellM a l = []
 | [], _ => rfl
 | j :: l, h => by
  have := h j List.mem_cons_self
  unfold tellM
  rw [List.map_cons, List.takeWhile_cons, if_neg (by simp only [decide_eq_true_eq]; omega)]
theorem tellM_cons {a j : Nat} {l : List Nat} (h : a - j ≤ 32768) : tellM a (j :: l) = (a - j) :: tellM a l := by
 unfold tellM
 rw [List.map_cons, List.takeWhile_cons, if_pos (by simpa using h)]
theorem tellM_stop {a j : Nat} {l : List Nat} (h : ¬ a - j ≤ 32768) : tellM a (j :: l) = [] := by
 unfold tellM
 rw [List.map_cons, List.takeWhile_cons, if_neg (by simpa using h)]
theorem cand_tell {b : List UInt8} {a : Nat} (ha : a + 3 ≤ b.length) : ∀ n, n ≤ a → candN b a n = tellM a (downs (fun j => keyM b j == keyM b a) n)
 | 0, _ => rfl
 | n + 1, h => by
  have ih := cand_tell ha n (by omega)
  rw [candN, downs]
  by_cases hd : a - n ≤ 32768
  ·rw [if_pos hd]
   have hk := keyM_len ha (d := a - n) (by omega) (by omega) hd
   rw [show a - (a - n) = n by omega] at hk
   by_cases h3 : 3 ≤ lenM b a (a - n)
   ·rw [if_pos h3, if_pos (by simpa using hk.2 h3), tellM_cons hd, ih]
   ·rw [if_neg h3, if_neg (by simpa using fun e => h3 (hk.1 e)), ih]
  ·rw [if_neg hd]
   refine (tellM_none a _ fun j hj => ?_).symm
   split at hj
   ·rcases List.mem_cons.1 hj with rfl | hj
    ·omega
    ·have := (downs_lt hj).1; omega
   ·have := (downs_lt hj).1; omega
theorem cands_tell {b : List UInt8} {a : Nat} (ha : a + 3 ≤ b.length) : cands b a = tellM a (walkM b a (prevM b a)) := by
 rw [walk_start]; exact cand_tell ha a (Nat.le_refl _)
theorem candN_short {b : List UInt8} {a : Nat} (ha : ¬ a + 3 ≤ b.length) : ∀ n, candN b a n = []
 | 0 => rfl
 | n + 1 => by
  have := lenM_fit b a (a - n)
  rw [candN, candN_short ha n]
  split
  ·rename_i hd
   rw [if_neg (by omega)]
  ·rfl
theorem candN_mem {b : List UInt8} {a d : Nat} : ∀ {n}, d ∈ candN b a n → 3 ≤ lenM b a d
 | 0, h => by simp [candN] at h
 | n + 1, h => by
  rw [candN] at h
  split at h
  ·split at h
   ·rcases List.mem_cons.1 h with rfl | h
    ·assumption
    ·exact candN_mem h
   ·exact candN_mem h
  ·simp at h
def pickM (f : Nat → Nat) : Nat → List Nat → Nat × Nat → Nat × Nat
  | 0, _, s => s
  | _ + 1, [], s => s
  | k + 1, d :: ds, s => pickM f k ds (if s.1 < f d then (f d, d) else s)
theorem pickM_nil (f : Nat → Nat) (k : Nat) (s : Nat × Nat) : pickM f k [] s = s := by cases k <;> rfl
theorem pickM_full {f : Nat → Nat} {M : Nat} (hf : ∀ d, f d ≤ M) : ∀ (k : Nat) (l : List Nat) (s : Nat × Nat), s.1 = M → pickM f k l s = s
 | 0, _, _, _ => rfl
 | _ + 1, [], _, _ => rfl
 | k + 1, d :: ds, s, h => by
  have := hf d
  rw [pickM, if_neg (by omega)]
  exact pickM_full hf k ds s h
def bestM (b : List UInt8) (a depth : Nat) : Nat × Nat := pickM (lenM b a) depth (cands b a) (0, 0)
theorem pickM_of {f : Nat → Nat} {G : Nat × Nat → Prop} : ∀ (k : Nat) (l : List Nat) (s : Nat × Nat), (∀ d ∈ l, G (f d, d)) → G s → G (pickM f k l s)
 | 0, _, _, _, h => h
 | _ + 1, [], _, _, h => h
 | k + 1, d :: ds, s, hG, h => by
  rw [pickM]
  refine pickM_of k ds _ (fun x hx => hG x (List.mem_cons_of_mem _ hx)) ?_
  split
  ·exact hG d List.mem_cons_self
  ·exact h
theorem bestM_ok (b : List UInt8) (a depth : Nat) : bestM b a depth = (0, 0) ∨ (3 ≤ (bestM b a depth).1 ∧ (bestM b a depth).1 = lenM b a (bestM b a depth).2) :=
 pickM_of (G := fun s => s = (0, 0) ∨ (3 ≤ s.1 ∧ s.1 = lenM b a s.2)) depth _ _ (fun d hd => .inr ⟨candN_mem hd, rfl⟩) (.inl rfl)
end Go.Bn
end

section
namespace Go.Bn
def rightL (l : List Tok) : Prop := l.length ≤ 65536 ∧ ∀ t ∈ l, t.right
instance (l : List Tok) : Decidable (rightL l) := by unfold rightL; infer_instance
def addAt (l : List Nat) (i : Nat) : List Nat := l.set i (l.getD i 0 + 1)
theorem addAt_length (l : List Nat) (i : Nat) : (addAt l i).length = l.length := by simp [addAt]
theorem addAt_sum : ∀ (l : List Nat) (i : Nat), (addAt l i).sum ≤ l.sum + 1
 | [], i => by simp [addAt]
 | x :: l, 0 => by simp [addAt]; omega
 | x :: l, i + 1 => by
  have := addAt_sum l i
  simp only [addAt, List.set_cons_succ, List.getD_cons_succ, List.sum_cons] at this ⊢
  omega
theorem le_sum : ∀ {l : List Nat} {x : Nat}, x ∈ l → x ≤ l.sum
 | y :: l, x, h => by
  rw [List.sum_cons]
  rcases List.mem_cons.1 h with rfl | h
  ·omega
  ·have := le_sum h; omega
def stepW (s : List Nat × List Nat × Nat) (y : Sy) : List Nat × List Nat × Nat := (addAt s.1 y.a.num.toNat, if y.m = true then addAt s.2.1 y.b.num.toNat else s.2.1, if y.m = true then s.2.2 + 1 else s.2.2)
def startW : List Nat × List Nat × Nat := ((List.replicate 273 0).set 256 1, List.replicate 30 0, 0)
def foldW (ys : List Sy) : List Nat × List Nat × Nat := ys.foldl stepW startW
theorem foldW_snoc (ys : List Sy) (y : Sy) : foldW (ys ++ [y]) = stepW (foldW ys) y := by simp [foldW, List.foldl_append]
theorem foldW_ok (ys : List Sy) : (foldW ys).1.length = 273 ∧ (foldW ys).2.1.length = 30 ∧ (foldW ys).1.sum ≤ 1 + ys.length ∧ (foldW ys).2.1.sum ≤ ys.length ∧ (foldW ys).2.2 ≤ ys.length := by
 suffices h : ∀ (ys : List Sy) (s : List Nat × List Nat × Nat), s.1.length = 273 → s.2.1.length = 30 → (ys.foldl stepW s).1.length = 273 ∧ (ys.foldl stepW s).2.1.length = 30 ∧ (ys.foldl stepW s).1.sum ≤ s.1.sum + ys.length ∧ (ys.foldl stepW s).2.1.sum ≤ s.2.1.sum + ys.length ∧ (ys.foldl stepW s).2.2 ≤ s.2.2 + ys.length by
  obtain ⟨h1, h2, h3, h4, h5⟩ := h ys startW (by decide +kernel) (by decide +kernel)
  refine ⟨h1, h2, ?_, ?_, ?_⟩
  ·rw [show startW.1.sum = 1 by decide +kernel] at h3; exact h3
  ·rw [show startW.2.1.sum = 0 by decide +kernel] at h4; unfold foldW; omega
  ·rw [show startW.2.2 = 0 by decide +kernel] at h5; unfold foldW; omega
 intro ys
 induction ys with
 | nil => intro s h1 h2; exact ⟨h1, h2, Nat.le_refl _, Nat.le_refl _, Nat.le_refl _⟩
 | cons y ys ih =>
  intro s h1 h2
  rw [List.foldl_cons]
  obtain ⟨g1, g2, g3, g4, g5⟩ := ih (stepW s y) (by simp only [stepW]; rw [addAt_length]; exact h1) (by simp only [stepW]; split; rw [addAt_length]; exact h2; exact h2)
  have a1 : (stepW s y).1.sum ≤ s.1.sum + 1 := addAt_sum s.1 y.a.num.toNat
  have a2 : (stepW s y).2.1.sum ≤ s.2.1.sum + 1 := by
   have := addAt_sum s.2.1 y.b.num.toNat
   simp only [stepW]; split <;> omega
  have a3 : (stepW s y).2.2 ≤ s.2.2 + 1 := by simp only [stepW]; split <;> omega
  rw [List.length_cons]
  exact ⟨g1, g2, by omega, by omega, by omega⟩
def firstW (ys : List Sy) : List Nat := (foldW ys).1
def secondW (ys : List Sy) : List Nat := if (foldW ys).2.2 = 0 then (foldW ys).2.1.set 0 1 else (foldW ys).2.1
theorem splitT_yes {t : Tok} (h : t.right) : splitT t = (splitY t, true) := if_pos h
theorem splitT_no {t : Tok} (h : ¬ t.right) : splitT t = (Sy.nil, false) := if_neg h
end Go.Bn
end

section
set_option linter.unusedVariables false
set_option linter.unusedSimpArgs false
namespace Go.Bn
def Rk (key : Nat → Nat) (a b : Nat) : Prop := key a < key b ∨ (key a = key b ∧ a < b)
def cmpI (a b : Nat) : Int := if a < b then -1 else if b < a then 1 else 0
theorem cmpI_neg {a b : Nat} : cmpI a b < 0 ↔ a < b := by unfold cmpI; split <;> (try split) <;> omega
abbrev RkS (key : Nat → Nat) (l : List Nat) : Prop := l.Pairwise (Rk key)
def PreM (key : Nat → Nat) (U V : List Nat) : Prop := RkS key U ∧ RkS key V ∧ ∀ u ∈ U, ∀ v ∈ V, key u = key v → u < v
def Mrg (key : Nat → Nat) (U V W : List Nat) : Prop := W.Perm (U ++ V) ∧ RkS key W
variable {key : Nat → Nat}
theorem Rk.le {a b : Nat} (h : Rk key a b) : key a ≤ key b := by rcases h with h | h <;> omega
theorem getD_eq {l : List Nat} {i : Nat} (h : i < l.length) : l.getD i 0 = l[i] := by simp [List.getD, h]
theorem getD_mem {l : List Nat} {i : Nat} (h : i < l.length) : l.getD i 0 ∈ l := by rw [getD_eq h]; exact List.getElem_mem h
theorem RkS.get {l : List Nat} (h : RkS key l) {i j : Nat} (hij : i < j) (hj : j < l.length) : Rk key (l.getD i 0) (l.getD j 0) := by
 rw [getD_eq (by omega), getD_eq hj]
 exact List.pairwise_iff_getElem.1 h i j (by omega) hj hij
theorem RkS.get_le {l : List Nat} (h : RkS key l) {i j : Nat} (hij : i ≤ j) (hj : j < l.length) : key (l.getD i 0) ≤ key (l.getD j 0) := by
 rcases Nat.lt_or_eq_of_le hij with h1 | rfl
 ·exact (h.get h1 hj).le
 ·exact Nat.le_refl _
theorem mem_take_get {l : List Nat} {i x : Nat} (h : x ∈ l.take i) : ∃ j, j < i ∧ j < l.length ∧ x = l.getD j 0 := by
 obtain ⟨j, hj, he⟩ := List.mem_take_iff_getElem.1 h
 exact ⟨j, by omega, by omega, by rw [getD_eq (by omega)]; exact he.symm⟩
theorem mem_drop_get {l : List Nat} {i x : Nat} (h : x ∈ l.drop i) : ∃ j, i ≤ j ∧ j < l.length ∧ x = l.getD j 0 := by
 obtain ⟨j, hj, he⟩ := List.mem_drop_iff_getElem.1 h
 exact ⟨i + j, by omega, by omega, by rw [getD_eq (by omega), ← he]⟩
theorem RkS.take {l : List Nat} (h : RkS key l) (i : Nat) : RkS key (l.take i) := h.sublist (List.take_sublist _ _)
theorem RkS.drop {l : List Nat} (h : RkS key l) (i : Nat) : RkS key (l.drop i) := h.sublist (List.drop_sublist _ _)
theorem PreM.part {U V : List Nat} (h : PreM key U V) (i j : Nat) : PreM key (U.take i) (V.take j) ∧ PreM key (U.drop i) (V.drop j) :=
  ⟨⟨h.1.take i, h.2.1.take j, fun u hu v hv => h.2.2 u (List.mem_of_mem_take hu) v (List.mem_of_mem_take hv)⟩,
   ⟨h.1.drop i, h.2.1.drop j, fun u hu v hv => h.2.2 u (List.mem_of_mem_drop hu) v (List.mem_of_mem_drop hv)⟩⟩
theorem mrg_split {U V W1 W2 : List Nat} (h : PreM key U V) {i j : Nat} (h1 : i = 0 ∨ V.length ≤ j ∨ key (U.getD (i - 1) 0) ≤ key (V.getD j 0)) (h2 : U.length ≤ i ∨ j = 0 ∨ key (V.getD (j - 1) 0) < key (U.getD i 0))
  (hi : i ≤ U.length) (hj : j ≤ V.length) (m1 : Mrg key (U.take i) (V.take j) W1) (m2 : Mrg key (U.drop i) (V.drop j) W2) : Mrg key U V (W1 ++ W2) := by
 refine ⟨?_, ?_⟩
 ·refine (m1.1.append m2.1).trans ?_
  have e1 : U ++ V = (U.take i ++ U.drop i) ++ (V.take j ++ V.drop j) := by rw [List.take_append_drop, List.take_append_drop]
  rw [e1, List.append_assoc, List.append_assoc]
  refine List.Perm.append_left _ ?_
  rw [← List.append_assoc, ← List.append_assoc]
  exact List.Perm.append_right _ List.perm_append_comm
 ·refine List.pairwise_append.2 ⟨m1.2, m2.2, fun a ha b hb => ?_⟩
  rw [m1.1.mem_iff, List.mem_append] at ha
  rw [m2.1.mem_iff, List.mem_append] at hb
  rcases ha with ha | ha <;> rcases hb with hb | hb <;> obtain ⟨x, hx, hxl, rfl⟩ := mem_take_get ha <;> obtain ⟨y, hy, hyl, rfl⟩ := mem_drop_get hb
  ·exact h.1.get (by omega) hyl
  ·have k1 := h.1.get_le (i := x) (j := i - 1) (by omega) (by omega)
   have k2 := h.2.1.get_le (i := j) (j := y) hy hyl
   have k3 : key (U.getD (i - 1) 0) ≤ key (V.getD j 0) := by
    rcases h1 with h1 | h1 | h1
    ·omega
    ·omega
    ·exact h1
   rcases Nat.lt_or_ge (key (U.getD x 0)) (key (V.getD y 0)) with k4 | k4
   ·exact .inl k4
   ·exact .inr ⟨by omega, h.2.2 _ (getD_mem hxl) _ (getD_mem hyl) (by omega)⟩
  ·have k1 := h.2.1.get_le (i := x) (j := j - 1) (by omega) (by omega)
   have k2 := h.1.get_le (i := i) (j := y) hy hyl
   have k3 : key (V.getD (j - 1) 0) < key (U.getD i 0) := by
    rcases h2 with h2 | h2 | h2
    ·omega
    ·omega
    ·exact h2
   exact .inl (by omega)
  ·exact h.2.1.get (by omega) hyl
theorem mrg_nil_left {V : List Nat} (h : RkS key V) : Mrg key [] V V := ⟨List.Perm.refl _, h⟩
theorem mrg_nil_right {U : List Nat} (h : RkS key U) : Mrg key U [] U := ⟨by simp, h⟩
theorem mrg_left {u : Nat} {V : List Nat} (h : PreM key [u] V) {i : Nat} (hi : i ≤ V.length) (h1 : i = 0 ∨ key (V.getD (i - 1) 0) < key u) (h2 : V.length ≤ i ∨ key u ≤ key (V.getD i 0)) : Mrg key [u] V (V.take i ++ u :: V.drop i) := by
 have m1 : Mrg key ([u].take 0) (V.take i) (V.take i) := mrg_nil_left (h.2.1.take i)
 have m2 : Mrg key ([u].drop 0) (V.drop i) (u :: V.drop i) := by
  refine ⟨List.Perm.refl _, List.pairwise_cons.2 ⟨fun b hb => ?_, h.2.1.drop i⟩⟩
  obtain ⟨y, hy, hyl, rfl⟩ := mem_drop_get hb
  have k2 := h.2.1.get_le (i := i) (j := y) hy hyl
  have k3 : key u ≤ key (V.getD i 0) := by
   rcases h2 with h2 | h2
   ·omega
   ·exact h2
  rcases Nat.lt_or_ge (key u) (key (V.getD y 0)) with k4 | k4
  ·exact .inl k4
  ·exact .inr ⟨by omega, h.2.2 u (by simp) _ (getD_mem hyl) (by omega)⟩
 refine mrg_split h (i := 0) (j := i) (.inl rfl) ?_ (Nat.zero_le _) hi m1 m2
 rcases h1 with h1 | h1
 ·exact .inr (.inl h1)
 ·exact .inr (.inr h1)
theorem mrg_right {v : Nat} {U : List Nat} (h : PreM key U [v]) {i : Nat} (hi : i ≤ U.length) (h1 : i = 0 ∨ key (U.getD (i - 1) 0) ≤ key v) (h2 : U.length ≤ i ∨ key v < key (U.getD i 0)) : Mrg key U [v] (U.take i ++ v :: U.drop i) := by
 have m1 : Mrg key (U.take i) ([v].take 0) (U.take i) := ⟨by simp, h.1.take i⟩
 have m2 : Mrg key (U.drop i) ([v].drop 0) (v :: U.drop i) := by
  refine ⟨(List.perm_append_comm (l₁ := [v]) (l₂ := U.drop i)), List.pairwise_cons.2 ⟨fun b hb => ?_, h.1.drop i⟩⟩
  obtain ⟨y, hy, hyl, rfl⟩ := mem_drop_get hb
  have k2 := h.1.get_le (i := i) (j := y) hy hyl
  have k3 : key v < key (U.getD i 0) := by
   rcases h2 with h2 | h2
   ·omega
   ·exact h2
  exact .inl (by omega)
 refine mrg_split h (i := i) (j := 0) ?_ (.inr (.inl rfl)) hi (Nat.zero_le _) m1 m2
 rcases h1 with h1 | h1
 ·exact .inl h1
 ·exact .inr (.inr h1)
theorem get_mid {α : Type} (A C : List α) (x : α) {i : Nat} (hi : i = A.length) : (A ++ x :: C)[i]? = some x := by subst hi; simp
theorem get_mid2 {α : Type} (A M C : List α) (x y : α) {i : Nat} (hi : i = A.length + 1 + M.length) : (A ++ x :: (M ++ y :: C))[i]? = some y := by
 subst hi
 rw [List.getElem?_append_right (by omega), show A.length + 1 + M.length - A.length = M.length + 1 by omega, List.getElem?_cons_succ, List.getElem?_append_right (Nat.le_refl _), Nat.sub_self]; rfl
theorem set_mid {α : Type} (A C : List α) (x y : α) {i : Nat} (hi : i = A.length) : (A ++ x :: C).set i y = A ++ y :: C := by
 subst hi; rw [List.set_append_right _ _ (Nat.le_refl _), Nat.sub_self]; rfl
theorem set_mid2 {α : Type} (A M C : List α) (x y z : α) {i : Nat} (hi : i = A.length + 1 + M.length) : (A ++ x :: (M ++ y :: C)).set i z = A ++ x :: (M ++ z :: C) := by
 have := set_mid (A ++ x :: M) C y z (i := i) (by simp; omega)
 simpa using this
theorem get_part {X U R : List Nat} {i a : Nat} (ha : X.length = a) (hi : i < U.length) : (X ++ (U ++ R))[a + i]? = some (U.getD i 0) := by
 subst ha
 rw [List.getElem?_append_right (by omega), Nat.add_sub_cancel_left, List.getElem?_append_left hi, getD_eq hi]; simp [hi]
theorem get_part2 {X U V R : List Nat} {i a : Nat} (ha : X.length + U.length = a) (hi : i < V.length) : (X ++ (U ++ (V ++ R)))[a + i]? = some (V.getD i 0) := by
 have := get_part (X := X ++ U) (U := V) (R := R) (i := i) (a := a) (by simpa using ha) hi
 rwa [List.append_assoc] at this
theorem take_snoc {l : List Nat} {i : Nat} (hi : i < l.length) : l.take (i + 1) = l.take i ++ [l.getD i 0] := by rw [getD_eq hi]; exact List.take_succ_eq_append_getElem hi
theorem drop_cons {l : List Nat} {i : Nat} (hi : i < l.length) : l.drop i = l.getD i 0 :: l.drop (i + 1) := by rw [getD_eq hi]; exact List.drop_eq_getElem_cons hi
def blk (B k : Nat) (l : List Nat) : List Nat := (l.drop (k * B)).take B
theorem blk_double (B k : Nat) (l : List Nat) : blk (2 * B) k l = blk B (2 * k) l ++ blk B (2 * k + 1) l := by
 unfold blk
 rw [Nat.two_mul B, List.take_add, List.drop_drop, show k * (B + B) = 2 * k * B by rw [Nat.mul_add, Nat.mul_comm 2 k, Nat.mul_assoc, Nat.two_mul, Nat.mul_add], show 2 * k * B + B = (2 * k + 1) * B by rw [Nat.add_mul, Nat.one_mul]]
theorem blk_here {B k : Nat} {X M Y : List Nat} (hX : X.length = k * B) (hM : M.length ≤ B) (hY : M.length = B ∨ Y = []) : blk B k (X ++ (M ++ Y)) = M := by
 unfold blk
 rw [← hX, List.drop_append_of_le_length (Nat.le_refl _), List.drop_length, List.nil_append]
 rcases hY with h | rfl
 ·rw [List.take_append_of_le_length (by omega), List.take_of_length_le (by omega)]
 ·rw [List.append_nil, List.take_of_length_le hM]
theorem blk_other {B k k' : Nat} {X M M' Y : List Nat} (hX : X.length = k * B) (hl : M'.length = M.length) (hM : M.length ≤ B) (hY : M.length = B ∨ Y = []) (hk : k' ≠ k) : blk B k' (X ++ (M' ++ Y)) = blk B k' (X ++ (M ++ Y)) := by
 unfold blk
 rcases Nat.lt_or_ge k' k with h | h
 ·have h1 : (k' + 1) * B ≤ k * B := Nat.mul_le_mul_right _ h
  rw [Nat.add_mul, Nat.one_mul] at h1
  rw [List.drop_append_of_le_length (by omega), List.drop_append_of_le_length (by omega), List.take_append_of_le_length (by rw [List.length_drop]; omega), List.take_append_of_le_length (by rw [List.length_drop]; omega)]
 ·have h1 : (k + 1) * B ≤ k' * B := Nat.mul_le_mul_right _ (by omega)
  rw [Nat.add_mul, Nat.one_mul] at h1
  have e : ∀ Z : List Nat, Z.length = M.length → (X ++ (Z ++ Y)).drop (k' * B) = Y.drop (k' * B - X.length - M.length) := fun Z hZ => by
   rcases hY with h2 | rfl
   ·rw [List.drop_append, List.drop_of_length_le (by omega), List.nil_append, List.drop_append, List.drop_of_length_le (by omega), List.nil_append, hZ]
   ·rw [List.append_nil, List.drop_of_length_le (by simp; omega), List.drop_nil]
  rw [e M' hl, e M rfl]
theorem blk_out {B k : Nat} {l : List Nat} (h : l.length ≤ k * B) : blk B k l = [] := by unfold blk; rw [List.drop_of_length_le h, List.take_nil]
theorem blk_all {B : Nat} {l : List Nat} (h : l.length ≤ B) : blk B 0 l = l := by unfold blk; rw [Nat.zero_mul, List.drop_zero, List.take_of_length_le h]
def BOK (key : Nat → Nat) (B : Nat) (l l0 : List Nat) (k : Nat) : Prop := (blk B k l).Perm (blk B k l0) ∧ RkS key (blk B k l)
theorem cut3 (l : List Nat) (a s : Nat) : l = l.take a ++ ((l.drop a).take s ++ l.drop (a + s)) := by
 rw [← List.drop_drop, List.take_append_drop, List.take_append_drop]
theorem blk_away {B k : Nat} {X M M' Y : List Nat} (hl : M'.length = M.length) (h : X.length + M.length ≤ k * B ∨ (k + 1) * B ≤ X.length) : blk B k (X ++ (M' ++ Y)) = blk B k (X ++ (M ++ Y)) := by
 unfold blk
 rcases h with h | h
 ·have e : ∀ Z : List Nat, Z.length = M.length → (X ++ (Z ++ Y)).drop (k * B) = Y.drop (k * B - X.length - M.length) := fun Z hZ => by
   rw [List.drop_append, List.drop_of_length_le (by omega), List.nil_append, List.drop_append, List.drop_of_length_le (by omega), List.nil_append, hZ]
  rw [e M' hl, e M rfl]
 ·rw [Nat.add_mul, Nat.one_mul] at h
  rw [List.drop_append_of_le_length (by omega), List.drop_append_of_le_length (by omega), List.take_append_of_le_length (by rw [List.length_drop]; omega), List.take_append_of_le_length (by rw [List.length_drop]; omega)]
theorem mem_blk {B k x : Nat} {l : List Nat} (h : x ∈ blk B k l) : x ∈ l := List.mem_of_mem_drop (List.mem_of_mem_take h)
theorem blk_length {B k : Nat} {l : List Nat} : (blk B k l).length = min B (l.length - k * B) := by unfold blk; rw [List.length_take, List.length_drop]
theorem BOK.out {B k : Nat} {l l0 : List Nat} (hl : l.length = l0.length) (h : l.length ≤ k * B) : BOK key B l l0 k := by
 unfold BOK
 rw [blk_out h, blk_out (by omega)]
 exact ⟨List.Perm.refl _, List.Pairwise.nil⟩
theorem BOK.put {B k : Nat} {X M M' Y l0 : List Nat} (hX : X.length = k * B) (hM : M.length ≤ B) (hY : M.length = B ∨ Y = []) (hp : M'.Perm (blk B k l0)) (hl : M'.length = M.length) (hs : RkS key M') : BOK key B (X ++ (M' ++ Y)) l0 k := by
 unfold BOK
 rw [blk_here hX (by omega) (hY.imp (fun h => by omega) id)]
 exact ⟨hp, hs⟩
theorem BOK.keep {B k : Nat} {X M M' Y l0 : List Nat} (hl : M'.length = M.length) (h : X.length + M.length ≤ k * B ∨ (k + 1) * B ≤ X.length) (hk : BOK key B (X ++ (M ++ Y)) l0 k) : BOK key B (X ++ (M' ++ Y)) l0 k := by
 unfold BOK at *
 rwa [blk_away hl h]
theorem BOK.double {B k : Nat} {l l0 : List Nat} (hl : l.length = l0.length) (h : l.length ≤ (2 * k + 1) * B) (h1 : BOK key B l l0 (2 * k)) : BOK key (2 * B) l l0 k := by
 unfold BOK at *
 rw [blk_double, blk_double, blk_out (k := 2 * k + 1) h, blk_out (k := 2 * k + 1) (by omega), List.append_nil, List.append_nil]
 exact h1
theorem preM_blk {B k : Nat} {l l0 : List Nat} (hlt : l0.Pairwise (· < ·)) (h1 : BOK key B l l0 (2 * k)) (h2 : BOK key B l l0 (2 * k + 1)) : PreM key (blk B (2 * k) l) (blk B (2 * k + 1) l) := by
 refine ⟨h1.2, h2.2, fun u hu v hv _ => ?_⟩
 rw [h1.1.mem_iff] at hu
 rw [h2.1.mem_iff] at hv
 have h3 : (blk (2 * B) k l0).Pairwise (· < ·) := hlt.sublist ((List.take_sublist _ _).trans (List.drop_sublist _ _))
 rw [blk_double] at h3
 exact (List.pairwise_append.1 h3).2.2 u hu v hv
theorem rk_unique : ∀ {l m : List Nat}, RkS key l → RkS key m → l.Perm m → l = m
 | [], m, _, _, hp => hp.nil_eq
 | a :: l, [], _, _, hp => by have := hp.length_eq; simp at this
 | a :: l, b :: m, hl, hm, hp => by
  obtain ⟨h1, h2⟩ := List.pairwise_cons.1 hl
  obtain ⟨h3, h4⟩ := List.pairwise_cons.1 hm
  have hab : a = b := by
   have ha : a ∈ b :: m := hp.mem_iff.1 (by simp)
   have hb : b ∈ a :: l := hp.mem_iff.2 (by simp)
   rcases List.mem_cons.1 ha with rfl | ha
   ·rfl
   ·rcases List.mem_cons.1 hb with rfl | hb
    ·rfl
    ·have k1 := h1 b hb
     have k2 := h3 a ha
     unfold Rk at k1 k2; omega
  subst hab
  rw [rk_unique h2 h4 (List.Perm.cons_inv hp)]
end Go.Bn
end
