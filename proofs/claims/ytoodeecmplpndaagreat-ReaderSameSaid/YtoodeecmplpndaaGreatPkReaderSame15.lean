/- Packed texts of a claim: what its theorem uses, joined. -/
import Derived.Test.YtoodeecmplpndaaGreatPkReaderSame14
section
set_option linter.unusedVariables false
set_option linter.unusedSimpArgs false
namespace Go.Bn
theorem distOK_snoc : ∀ {ts : List Tok} {sz : Nat} {t : Tok}, distOK sz ts → t.dist ≤ ((sz + sizeT ts : Nat) : Int) → distOK sz (ts ++ [t])
 | [], sz, t, _, h => ⟨by simpa [sizeT] using h, trivial⟩
 | x :: ts, sz, t, ⟨h1, h2⟩, h => by
  rw [sizeT_cons] at h
  exact ⟨h1, distOK_snoc h2 (by rw [show sz + x.size + sizeT ts = sz + (x.size + sizeT ts) by omega]; exact h)⟩
theorem sizeT_snoc (ts : List Tok) (t : Tok) : sizeT (ts ++ [t]) = sizeT ts + t.size := by simp [sizeT]
structure TokOk (ts : List Tok) : Prop where
  ok : ∀ t ∈ ts, t.right ∧ 0 ≤ t.byte ∧ t.byte < 256
  dist : distOK 0 ts
theorem TokOk.snoc {ts : List Tok} {t : Tok} (h : TokOk ts) (h1 : t.right) (h2 : 0 ≤ t.byte ∧ t.byte < 256) (h3 : t.dist ≤ (sizeT ts : Int)) : TokOk (ts ++ [t]) :=
 ⟨fun x hx => by
  rcases List.mem_append.1 hx with hx | hx
  ·exact h.ok x hx
  ·rw [List.mem_singleton] at hx; subst hx; exact ⟨h1, h2⟩, distOK_snoc h.dist (by rw [Nat.zero_add]; exact h3)⟩
theorem expL_snoc (ts : List Tok) (t : Tok) (out : List UInt8) : expL (ts ++ [t]) out = expT t (expL ts out) := by simp [expL]
theorem expL_length : ∀ {ts : List Tok} (out : List UInt8), (∀ t ∈ ts, t.right) → (expL ts out).length = out.length + sizeT ts
 | [], out, _ => by simp [expL, sizeT]
 | t :: ts, out, h => by
  have ih := expL_length (ts := ts) (expT t out) fun x hx => h x (List.mem_cons_of_mem _ hx)
  have h1 := expT_length (h t List.mem_cons_self) out
  rw [sizeT_cons]
  show (expL ts (expT t out)).length = _
  omega
theorem goB_ok {la lb : List Nat} {bs : List Bool} {most : Int} (oka : lensOK la) (okb : lensOK lb) : ∀ (f a sz : Nat) (acc : List Tok), a ≤ bs.length → TokOk acc → sizeT acc = sz → (sz : Int) ≤ most → (goB la lb bs most f a sz acc).2.2.2 = 0 →
  TokOk (goB la lb bs most f a sz acc).1 ∧ sizeT (goB la lb bs most f a sz acc).1 = (goB la lb bs most f a sz acc).2.1 ∧ ((goB la lb bs most f a sz acc).2.1 : Int) ≤ most ∧ (goB la lb bs most f a sz acc).2.2.1 ≤ bs.length ∧ (goB la lb bs most f a sz acc).1.length ≤ acc.length + f
 | 0, a, sz, acc, _, _, _, _, h => by cases h
 | f + 1, a, sz, acc, ha, hA, hs, hm, h => by
  have hn := nextT_at (la := la) (lb := lb) (bs := bs) (a := a) oka okb ha
  revert h
  rw [goB]
  obtain ⟨N, hN⟩ : ∃ N, nextT la lb bs a = N := ⟨_, rfl⟩
  rw [hN] at hn ⊢
  by_cases h1 : N.2.2.1 = true
  ·rw [if_pos h1]
   by_cases h2 : N.2.2.2 ≠ 0
   ·rw [if_pos h2]; intro h; exact absurd h h2
   ·rw [if_neg h2]
    intro _
    exact ⟨hA, hs, hm, hn.2.1, by simp⟩
  ·rw [if_neg h1]
   by_cases h2 : (sz : Int) < N.1.dist
   ·rw [if_pos h2]; intro h; cases h
   ·rw [if_neg h2]
    by_cases h3 : most - sz < N.1.size
    ·rw [if_pos h3]; intro h; cases h
    ·rw [if_neg h3]
     intro h
     obtain ⟨k1, _, k3, k4⟩ := hn.2.2 (by simpa using h1)
     obtain ⟨g1, g2, g3, g4, g5⟩ := goB_ok oka okb f N.2.1 (sz + N.1.size) (acc ++ [N.1]) hn.2.1 (hA.snoc k3 k4 (by omega)) (by rw [sizeT_snoc]; omega) (by omega) h
     refine ⟨g1, g2, g3, g4, ?_⟩
     rw [List.length_append, List.length_singleton] at g5
     omega
theorem blockT_ok {bs : List Bool} {most : Int} (h0 : 0 ≤ most) (h : (blockT bs most).2.2.2 = 0) : TokOk (blockT bs most).1 ∧ sizeT (blockT bs most).1 = (blockT bs most).2.1 ∧ ((blockT bs most).2.1 : Int) ≤ most ∧ (blockT bs most).2.2.1 ≤ bs.length ∧ (blockT bs most).1.length ≤ bs.length + 1 := by
 revert h
 unfold blockT
 by_cases hc : (codesT bs 0).1 ≠ 0
 ·rw [if_pos hc]; intro h; exact absurd h hc
 ·rw [if_neg hc]
  intro h
  obtain ⟨oka, okb, _, _⟩ := codesT_ok (bs := bs) (a := 0) (by omega)
  have := goB_ok oka okb (bs.length + 1) _ 0 [] (codesT_le (by omega)) ⟨by simp, trivial⟩ rfl (by omega) h
  simpa using this
noncomputable def unpackU (mt : Int) (l : List UInt8) (size : Int) : List UInt8 × Nat :=
  if mt < 0 ∨ 2 < mt then ([], 1)
  else if size < 0 ∨ 65536 < size then ([], 5)
  else if mt = 1 then
    if (blockT (bitsB l) size).2.2.2 ≠ 0 then ([], (blockT (bitsB l) size).2.2.2)
    else if ((blockT (bitsB l) size).2.1 : Int) ≠ size then ([], 5)
    else if 8 ≤ (bitsB l).length - (blockT (bitsB l) size).2.2.1 ∨ numB (bitsB l) (blockT (bitsB l) size).2.2.1 8 ≠ 0 then ([], 3)
    else (expL (blockT (bitsB l) size).1 [], 0)
  else if mt = 2 then
    if (pieces l).2 ≠ 0 then ([], (pieces l).2.toNat)
    else if ((pieces l).1.length : Int) ≠ size then ([], 5)
    else ((pieces l).1, 0)
  else if (l.length : Int) ≠ size then ([], 5) else (l, 0)
theorem goB_giv {la lb : List Nat} {bs : List Bool} {size : Nat} (oka : lensOK la) (okb : lensOK lb) : ∀ (f a sz : Nat) (acc : List Tok) (out gB : List UInt8) (gE : Nat), a ≤ bs.length → bs.length - a < f → expL acc [] = out → out.length = sz → sz ≤ size → Giv (mvP la lb bs size) a out gB gE →
  ((goB la lb bs size f a sz acc).2.2.2 ≠ 0 → gE ≠ 0) ∧ ((goB la lb bs size f a sz acc).2.2.2 = 0 → gB = expL (goB la lb bs size f a sz acc).1 [] ∧ gB.length = (goB la lb bs size f a sz acc).2.1 ∧ gE = endE bs size (goB la lb bs size f a sz acc).2.2.1 (goB la lb bs size f a sz acc).2.1)
 | 0, a, sz, acc, out, gB, gE, ha, hf, _, _, _, _ => by omega
 | f + 1, a, sz, acc, out, gB, gE, ha, hf, he, hl, hs, g => by
  have hn := nextT_at (la := la) (lb := lb) (bs := bs) (a := a) oka okb ha
  have hM : mvP la lb bs size a out = mvP la lb bs size a out := rfl
  conv at hM => rhs; unfold mvP
  rw [goB]
  obtain ⟨N, hN⟩ : ∃ N, nextT la lb bs a = N := ⟨_, rfl⟩
  rw [hN] at hn hM ⊢
  by_cases h1 : N.2.2.1 = true
  ·rw [if_pos h1]
   rw [if_pos h1] at hM
   cases g with
   | more h _ => rw [hM] at h; cases h
   | over h =>
    rw [hM]
    simp only
    by_cases h2 : N.2.2.2 ≠ 0
    ·rw [if_pos h2, if_pos h2]
     exact ⟨fun _ => h2, fun h => absurd h h2⟩
    ·rw [if_neg h2, if_neg h2]
     exact ⟨fun h => absurd rfl h, fun _ => ⟨he.symm, hl, by simp only; rw [hl]⟩⟩
  ·rw [if_neg h1]
   rw [if_neg h1] at hM
   by_cases h2 : (sz : Int) < N.1.dist
   ·rw [if_pos h2]
    rw [if_pos (by omega)] at hM
    cases g with
    | more h _ => rw [hM] at h; cases h
    | over h => rw [hM]; exact ⟨fun _ => by simp, fun h => by cases h⟩
   ·rw [if_neg h2]
    rw [if_neg (by omega)] at hM
    obtain ⟨k1, _, k3, k4⟩ := hn.2.2 (by simpa using h1)
    have hz := Tok.size_le k3
    by_cases h3 : (size : Int) - sz < N.1.size
    ·rw [if_pos h3]
     rw [if_pos (by omega)] at hM
     cases g with
     | more h _ => rw [hM] at h; cases h
     | over h => rw [hM]; exact ⟨fun _ => by simp, fun h => by cases h⟩
    ·rw [if_neg h3]
     rw [if_neg (by omega)] at hM
     cases g with
     | over h => rw [hM] at h; cases h
     | more h g =>
      rw [hM] at g
      exact goB_giv oka okb f N.2.1 (sz + N.1.size) (acc ++ [N.1]) (expT N.1 out) gB gE hn.2.1 (by omega) (by rw [expL_snoc, he]) (by rw [expT_length k3]; omega) (by omega) g
theorem packed_giv {l gB : List UInt8} {gE size : Nat} (hc : (codesT (bitsB l) 0).1 = 0) (g : Giv (mvP (codesT (bitsB l) 0).2.1 (codesT (bitsB l) 0).2.2.1 (bitsB l) size) (codesT (bitsB l) 0).2.2.2 [] gB gE) :
  ((blockT (bitsB l) size).2.2.2 ≠ 0 → gE ≠ 0) ∧ ((blockT (bitsB l) size).2.2.2 = 0 → gB = expL (blockT (bitsB l) size).1 [] ∧ gB.length = (blockT (bitsB l) size).2.1 ∧ gE = endE (bitsB l) size (blockT (bitsB l) size).2.2.1 (blockT (bitsB l) size).2.1) := by
 obtain ⟨oka, okb, _, _⟩ := codesT_ok hc
 unfold blockT
 rw [if_neg (by omega)]
 exact goB_giv oka okb ((bitsB l).length + 1) _ 0 [] [] gB gE (codesT_le hc) (by omega) rfl rfl (Nat.zero_le _) g
theorem pieces_giv {l : List UInt8} {size : Nat} : ∀ (f a : Nat) (out gB : List UInt8) (gE : Nat), a ≤ l.length → l.length - a < f → out.length ≤ size → Giv (mvS l size) a out gB gE →
  (gE = 0 ↔ (piecesF f (l.drop a) out).2 = 0 ∧ (piecesF f (l.drop a) out).1.length = size) ∧ (gE = 0 → gB = (piecesF f (l.drop a) out).1)
 | 0, a, out, gB, gE, ha, hf, _, _ => by omega
 | f + 1, a, out, gB, gE, ha, hf, hs, g => by
  have hM : mvS l size a out = mvS l size a out := rfl
  conv at hM => rhs; unfold mvS
  rw [piecesF]
  obtain ⟨n, hn⟩ : ∃ n, leV ((l.drop a).take 2) = n := ⟨_, rfl⟩
  rw [hn] at hM ⊢
  rw [List.length_drop, List.drop_drop, List.drop_drop]
  by_cases h1 : l.length < a + 2
  ·rw [if_pos h1] at hM
   rw [if_pos (by omega)]
   cases g with
   | more h _ => rw [hM] at h; cases h
   | over h => rw [hM]; exact ⟨⟨fun h => (by cases h), fun h => absurd h.1 (by decide)⟩, fun h => by cases h⟩
  ·rw [if_neg h1] at hM
   rw [if_neg (by omega)]
   by_cases h2 : l.length < a + 2 + n
   ·rw [if_pos h2] at hM
    rw [if_pos (by omega)]
    cases g with
    | more h _ => rw [hM] at h; cases h
    | over h => rw [hM]; exact ⟨⟨fun h => (by cases h), fun h => absurd h.1 (by decide)⟩, fun h => by cases h⟩
   ·rw [if_neg h2] at hM
    rw [if_neg (by omega)]
    by_cases h3 : size - out.length < n
    ·rw [if_pos h3] at hM
     rw [if_neg (by omega)]
     have hgr : ∀ (f : Nat) (l out : List UInt8), (piecesF f l out).2 = 0 → out.length ≤ (piecesF f l out).1.length := by
      intro f
      induction f with
      | zero => intro l out h; cases h
      | succ f ih =>
       intro l out h
       revert h
       rw [piecesF]
       split
       ·intro h; cases h
       ·split
        ·intro h; cases h
        ·split
         ·split
          ·intro h; cases h
          ·intro _; exact Nat.le_refl _
         ·intro h
          have := ih _ _ h
          rw [List.length_append] at this
          omega
     have := hgr f (l.drop (a + (2 + n))) (out ++ (l.drop (a + 2)).take n)
     rw [List.length_append, List.length_take, List.length_drop, Nat.min_eq_left (by omega)] at this
     cases g with
     | more h _ => rw [hM] at h; cases h
     | over h => rw [hM]; exact ⟨⟨fun h => (by cases h), fun h => by have := this h.1; omega⟩, fun h => by cases h⟩
    ·rw [if_neg h3] at hM
     by_cases h4 : 0 < n
     ·rw [if_pos h4] at hM
      rw [if_neg (by omega)]
      cases g with
      | over h => rw [hM] at h; cases h
      | more h g =>
       rw [hM] at g
       rw [show a + (2 + n) = a + 2 + n by omega]
       exact pieces_giv f (a + 2 + n) _ gB gE (by omega) (by omega) (by rw [List.length_append, List.length_take, List.length_drop]; omega) g
     ·rw [if_neg h4] at hM
      rw [if_pos (by omega)]
      by_cases h5 : a + 2 < l.length
      ·rw [if_pos h5] at hM
       rw [if_pos (by omega)]
       cases g with
       | more h _ => rw [hM] at h; cases h
       | over h => rw [hM]; exact ⟨⟨fun h => (by cases h), fun h => absurd h.1 (by decide)⟩, fun h => by cases h⟩
      ·rw [if_neg h5] at hM
       rw [if_neg (by omega)]
       by_cases h6 : out.length < size
       ·rw [if_pos h6] at hM
        cases g with
        | more h _ => rw [hM] at h; cases h
        | over h => rw [hM]; exact ⟨⟨fun h => (by cases h), fun h => by have := h.2; simp only at this; omega⟩, fun h => by cases h⟩
       ·rw [if_neg h6] at hM
        cases g with
        | more h _ => rw [hM] at h; cases h
        | over h => rw [hM]; exact ⟨⟨fun _ => ⟨rfl, by simp only; omega⟩, fun _ => rfl⟩, fun _ => rfl⟩
end Go.Bn
end

section
set_option linter.unusedVariables false
set_option linter.unusedSimpArgs false
set_option maxHeartbeats 4000000
set_option maxRecDepth 20000
namespace Go.Bn
open Go Proofs
theorem tok_fit {sz : Nat} {ts : List Tok} {i : Nat} (hi : i < ts.length) (hd : distOK sz (ts.drop i)) : ts[i].dist ≤ sz ∧ distOK (sz + ts[i].size) (ts.drop (i + 1)) := by
 rw [List.drop_eq_getElem_cons hi] at hd
 exact hd
theorem size_drop {ts : List Tok} {i : Nat} (hi : i < ts.length) : sizeT (ts.drop i) = ts[i].size + sizeT (ts.drop (i + 1)) := by
 rw [List.drop_eq_getElem_cons hi, sizeT_cons]
theorem expL_take {ts : List Tok} {i : Nat} (hi : i < ts.length) : expL (ts.take (i + 1)) [] = expT ts[i] (expL (ts.take i) []) := by
 rw [List.take_succ_eq_append_getElem hi, expL_snoc]
theorem copy_step {L k D : Nat} {out : List UInt8} (h : k < L) : copyT (L - k) D out = copyT (L - (k + 1)) D (out ++ [out.getD (out.length - D) 0]) := by
 obtain ⟨j, hj⟩ : ∃ j, L - k = j + 1 := ⟨L - k - 1, by omega⟩
 rw [hj, copyT, show L - (k + 1) = j by omega]
theorem texpand_spec {n c most : Nat} {A : Option Addr} {ts : List Tok} {h0 : Heap} (hr : Rd h0 A (ts.flatMap tokV)) (hl : ts.length = n) (hn : n ≤ 1099511627776) (hk : TokOk ts) (hm : sizeT ts ≤ most) (hmb : most ≤ 1048576) :
  Ret Tryz.prog 87 [.slice A n c, nV most] h0 fun v h' => ∃ w, v = retVal [w, nV 0] ∧ St h0.size h0 h' [row 5 1 w ((expL ts []).map byteV)] := by
 refine ret_of_X Tryz.func87 rfl rfl fun w0 hw0 => ?_
 simp only [argE, Nat.zero_add, Nat.reduceAdd]
 have st := (St.start h0).nilrow 5 1
 refine X_seq (X_reg (XA rfl rfl rfl (XA rfl rfl rfl (XR_nil (X_seq (X_reg (XA rfl rfl rfl (XR_nil (X_seq ?_)))))))))
 refine X_seq (X_reg (XV rfl rfl rfl ?_))
 refine XR_a (op_len rfl rfl rfl) rfl rfl ?_
 refine XV rfl rfl rfl (XR_nil (X_block ?_))
 refine X_loop (fun s => n - s.1) (fun s => [(1, nV most), (6, s.2), (10, .slice A n c), (11, nV n), (12, nV s.1)])
  (fun (s : Nat × Value) hp => s.1 ≤ n ∧ distOK (expL (ts.take s.1) []).length (ts.drop s.1) ∧ (expL (ts.take s.1) []).length + sizeT (ts.drop s.1) ≤ most ∧ St h0.size h0 hp [row 5 1 s.2 ((expL (ts.take s.1) []).map byteV)])
  (0, _) (.cons rfl (.cons rfl (.cons rfl (.cons rfl (.cons rfl (.nil _)))))) ⟨Nat.zero_le _, hk.dist, by simp only [List.take_zero, List.drop_zero]; show 0 + sizeT ts ≤ most; omega, st⟩ ?_
 clear st
 rintro ⟨i, v⟩ hp ⟨hi, hd, hs, st⟩
 simp only at hi hd hs st ⊢
 obtain ⟨A6, n6, c6, rfl, hl6, _⟩ := st.row 0 rfl
 rw [List.length_map, Nat.mul_one] at hl6
 refine X_seq (X_reg ?_)
 refine XR_a (op_lss rfl rfl) rfl rfl ?_
 refine XR_nil (X_seq ?_)
 refine X_if rfl (fun h => ?_) (fun h => ?_)
 ·have hil : i < ts.length := by omega
  have hex := expL_take hil
  obtain ⟨hd1, hd2⟩ := tok_fit hil hd
  rw [size_drop hil] at hs
  obtain ⟨hx1, hx2⟩ := hk.ok _ (List.getElem_mem hil)
  obtain ⟨g1, og, rfl, hc1⟩ := Rd.flat tokV 3 (hr.ext st.low) (fun _ => rfl) (by omega) (by omega)
  have hcx := hc1 i hil
  obtain ⟨x, hx⟩ : ∃ x, ts[i] = x := ⟨_, rfl⟩
  rw [hx] at hcx hex hd1 hd2 hs hx1 hx2
  have hxs := Tok.size_le hx1
  have hxl := expT_length hx1 (expL (ts.take i) [])
  obtain ⟨out, hout⟩ : ∃ out, expL (ts.take i) [] = out := ⟨_, rfl⟩
  rw [hout] at st hex hd1 hd2 hs hl6 hxl
  have hxr := hx1
  unfold Tok.right at hxr
  have hx0 : 0 ≤ x.len ∧ 0 ≤ x.dist := by split at hxr <;> omega
  refine X_skip (X_seq (X_block (X_seq (X_reg ?_))))
  refine XR_a (op_index (i := i) rfl rfl rfl (by omega)) rfl rfl ?_
  refine XR_a (op_ldA (vs := tokV x) hcx rfl rfl rfl rfl) rfl rfl ?_
  refine XR_wa (opl_new rfl) rfl rfl rfl ?_
  rintro _ hp ⟨p8, rfl, hnew⟩
  replace st := st.new hnew
  refine XR_wn (opl_store_whole (us := tokV x) st 0 rfl rfl rfl rfl rfl (tokV_one x) rfl) rfl rfl fun _ hp st => ?_
  simp only [List.set_cons_zero] at st
  refine XR_nil (X_seq (X_block (X_seq (X_reg ?_))))
  refine XR_a (op_ldA (vs := tokV x) (st.cells 0 rfl) rfl rfl rfl rfl) rfl rfl ?_
  refine XR_wa (opl_call (tright_spec x _) rfl (by kernel_rfl)) rfl rfl rfl ?_
  rintro _ hp2 ⟨rfl, hx2'⟩
  replace st := st.ext hx2'
  rw [decide_eq_true hx1]
  refine XR_a (op_not rfl) rfl rfl ?_
  refine XR_as (.bool false) rfl ?_
  refine XV rfl rfl rfl ?_
  first | refine XR_a (op_field0 rfl rfl) rfl rfl ?_ | refine XR_a (op_fieldn rfl rfl) rfl rfl ?_
  refine XR_a (op_ld (st.cell 0 (i := 2) rfl rfl) rfl rfl rfl) rfl rfl ?_
  refine XV rfl rfl rfl ?_
  refine XR_a (op_len rfl rfl rfl) rfl rfl ?_
  refine XR_a (op_gtr rfl rfl) rfl rfl ?_
  refine XR_as (.bool false) (congrArg Value.bool (decide_eq_false (by omega))) ?_
  refine XR_a (op_pick_f rfl rfl) rfl rfl (XA rfl rfl rfl (XR_nil (X_else rfl (X_seq (X_reg ?_)))))
  first | refine XR_a (op_field0 rfl rfl) rfl rfl ?_ | refine XR_a (op_fieldn rfl rfl) rfl rfl ?_
  refine XR_a (op_ld (st.cell 0 (i := 1) rfl rfl) rfl rfl rfl) rfl rfl ?_
  refine XR_a (op_max2 rfl rfl) rfl rfl ?_
  refine XV rfl rfl rfl (XV rfl rfl rfl ?_)
  refine XR_a (op_len rfl rfl rfl) rfl rfl ?_
  refine XR_a (op_subN (m := most) (n := n6) rfl rfl (by omega) (by simp only [inK]; omega)) rfl rfl ?_
  refine XR_a (op_gtr rfl rfl) rfl rfl ?_
  refine XR_as (.bool false) (congrArg Value.bool (decide_eq_false (by omega))) ?_
  refine XA rfl rfl rfl (XR_nil (X_else rfl (X_seq (X_reg ?_))))
  first | refine XR_a (op_field0 rfl rfl) rfl rfl ?_ | refine XR_a (op_fieldn rfl rfl) rfl rfl ?_
  refine XR_a (op_ld (st.cell 0 (i := 1) rfl rfl) rfl rfl rfl) rfl rfl ?_
  refine XR_a (op_eql rfl rfl) rfl rfl ?_
  refine XA rfl rfl rfl (XR_nil ?_)
  refine X_if rfl (fun h => ?_) (fun h => ?_)
  ·have hE : expT x out = copyT x.len.toNat x.dist.toNat (out ++ [UInt8.ofNat x.byte.toNat]) := by
    unfold expT; rw [if_pos h, h]; rfl
   refine X_reg (XV rfl rfl rfl ?_)
   first | refine XR_a (op_field0 rfl rfl) rfl rfl ?_ | refine XR_a (op_fieldn rfl rfl) rfl rfl ?_
   refine XR_a (op_ld (st.cell 0 (i := 0) rfl rfl) rfl rfl rfl) rfl rfl ?_
   refine XR_as (byteV (UInt8.ofNat x.byte.toNat)) (congrArg (Value.int .u8) (by rw [UInt8.toNat_ofNat']; omega)) ?_
   refine XR_wa (opl_var1 (v := byteV (UInt8.ofNat x.byte.toNat)) rfl rfl rfl) rfl rfl rfl ?_
   rintro _ hp ⟨Aq, rfl, hxq, hrq⟩
   replace st := st.ext hxq
   refine XR_wa (opl_append st 1 rfl (hrq) (rfl) (one_bytes [_]) (by simp; omega) rfl rfl rfl rfl rfl rfl rfl) rfl rfl rfl fun v hp st => ?_
   simp only [List.set_cons_zero, List.set_cons_succ] at st
   rw [show out.map byteV ++ [byteV (UInt8.ofNat x.byte.toNat)] = (out ++ [UInt8.ofNat x.byte.toNat]).map byteV by rw [List.map_append]; rfl] at st
   obtain ⟨o1, ho1⟩ : ∃ o1, out ++ [UInt8.ofNat x.byte.toNat] = o1 := ⟨_, rfl⟩
   rw [ho1] at hE st
   have ho1l : 0 < x.len.toNat → (x.dist.toNat ≤ o1.length ∧ 1 ≤ x.dist.toNat) := fun hh => absurd hh (by omega)
   have hol : o1.length ≤ 1048576 := by rw [← ho1, List.length_append, List.length_singleton]; omega
   refine XA rfl rfl rfl (XR_nil (X_blk (X_seq (X_reg ?_))))
   first | refine XR_a (op_field0 rfl rfl) rfl rfl ?_ | refine XR_a (op_fieldn rfl rfl) rfl rfl ?_
   refine XR_a (op_ld (st.cell 0 (i := 1) rfl rfl) rfl rfl rfl) rfl rfl ?_
   refine XR_as (nV x.len.toNat) (congrArg (Value.int .i64) (by omega)) ?_
   refine XV rfl rfl rfl (XR_nil (X_block ?_))
   refine X_loop (fun s => x.len.toNat - s.1) (fun s => [(1, nV most), (6, s.2.2), (8, .pointer (some ⟨p8, 0, none⟩)), (10, .slice (some ⟨g1, og, none⟩) n c), (11, nV n), (12, nV i), (46, nV x.len.toNat), (47, nV s.1)])
    (fun (s : Nat × List UInt8 × Value) hp => s.1 ≤ x.len.toNat ∧ copyT (x.len.toNat - s.1) x.dist.toNat s.2.1 = expT x out ∧ s.2.1.length = o1.length + s.1 ∧ St h0.size h0 hp [pt p8 65 (tokV x), row 5 1 s.2.2 (s.2.1.map byteV)])
    (0, o1, _) (.cons rfl (.cons rfl (.cons rfl (.cons rfl (.cons rfl (.cons rfl (.cons rfl (.cons rfl (.nil _))))))))) ⟨Nat.zero_le _, hE.symm, rfl, st⟩ ?_
   clear st
   rintro ⟨k, o2, v2⟩ hp ⟨hk1, hk2, hk3, st⟩
   simp only at hk1 hk2 hk3 st ⊢
   obtain ⟨A7, n7, c7, rfl, hl7, _, _, hr7⟩ := st.row 1 rfl
   rw [List.length_map, Nat.mul_one] at hl7
   subst hl7
   refine X_seq (X_reg ?_)
   refine XR_a (op_lss rfl rfl) rfl rfl ?_
   refine XR_nil (X_seq ?_)
   refine X_if rfl (fun h => ?_) (fun h => ?_)
   ·have hkL : k < x.len.toNat := by omega
    obtain ⟨hD1, hD2⟩ := ho1l (by omega)
    rw [copy_step hkL] at hk2
    obtain ⟨g7, o7, rfl, hc7⟩ := hr7.at_ (by rw [List.length_map]; omega)
    have hci := hc7 (o2.length - x.dist.toNat) (byteV (o2.getD (o2.length - x.dist.toNat) 0)) (by rw [List.getElem?_map, List.getElem?_eq_getElem (by omega), getD_at (by omega)]; rfl)
    refine X_skip (X_seq (X_block (X_seq (X_reg (XV rfl rfl rfl (XV rfl rfl rfl ?_))))))
    refine XR_a (op_len rfl rfl rfl) rfl rfl ?_
    first | refine XR_a (op_field0 rfl rfl) rfl rfl ?_ | refine XR_a (op_fieldn rfl rfl) rfl rfl ?_
    refine XR_a (op_ld (st.cell 0 (i := 2) rfl rfl) rfl rfl rfl) rfl rfl ?_
    refine XR_a (op_subI rfl rfl (by simp only [inK]; omega)) rfl rfl ?_
    refine XR_as (nV (o2.length - x.dist.toNat)) (congrArg (Value.int .i64) (by omega)) ?_
    refine XR_a (op_index1 (i := o2.length - x.dist.toNat) rfl rfl rfl (by omega)) rfl rfl ?_
    refine XR_a (op_ld (hci) rfl rfl rfl) rfl rfl ?_
    refine XA rfl rfl rfl (XR_nil (X_reg (XV rfl rfl rfl (XV rfl rfl rfl ?_))))
    refine XR_wa (opl_var1 (v := byteV (o2.getD (o2.length - x.dist.toNat) 0)) rfl rfl rfl) rfl rfl rfl ?_
    rintro _ hp ⟨Aq, rfl, hxq, hrq⟩
    replace st := st.ext hxq
    refine XR_wa (opl_append st 1 rfl (hrq) (rfl) (one_bytes [_]) (by simp; omega) rfl rfl rfl rfl rfl rfl rfl) rfl rfl rfl fun v hp st => ?_
    simp only [List.set_cons_zero, List.set_cons_succ] at st
    rw [show o2.map byteV ++ [byteV (o2.getD (o2.length - x.dist.toNat) 0)] = (o2 ++ [o2.getD (o2.length - x.dist.toNat) 0]).map byteV by rw [List.map_append]; rfl] at st
    refine XA rfl rfl rfl (XR_nil (X_blk (X_reg ?_)))
    first | refine XR_a (op_addN (n := 1) rfl rfl (by simp only [inK]; omega)) rfl rfl ?_ | refine XR_a (op_addI rfl rfl (by simp only [inK]; omega)) rfl rfl ?_ | refine XR_a (op_add rfl rfl) rfl rfl ?_
    refine XV rfl rfl rfl (XR_nil ?_)
    exact X_again (k + 1, _, _) (.cons rfl (.cons rfl (.cons rfl (.cons rfl (.cons rfl (.cons rfl (.cons rfl (.cons rfl (.nil _))))))))) ⟨by simp only; omega, hk2, by simp only [List.length_append, List.length_singleton]; omega, st⟩ (by simp only; omega)
   ·rw [show x.len.toNat - k = 0 by omega, copyT] at hk2
    rw [show o2.map byteV = (expL (ts.take (i + 1)) []).map byteV by rw [hk2, hex]] at st
    refine X_exit rfl (X_blk (X_reg ?_))
    first | refine XR_a (op_addN (n := 1) rfl rfl (by simp only [inK]; omega)) rfl rfl ?_ | refine XR_a (op_addI rfl rfl (by simp only [inK]; omega)) rfl rfl ?_ | refine XR_a (op_add rfl rfl) rfl rfl ?_
    refine XV rfl rfl rfl (XR_nil ?_)
    refine X_again (i + 1, _) (.cons rfl (.cons rfl (.cons rfl (.cons rfl (.cons rfl (.nil _)))))) ⟨by simp only; omega, ?_, ?_, st.tail⟩ (by simp only; omega)
    ·simp only; rw [hex, hxl]; exact hd2
    ·simp only; rw [hex, hxl]; omega
  ·obtain ⟨o1, ho1⟩ : ∃ o1, out = o1 := ⟨_, rfl⟩
   have hE : expT x out = copyT x.len.toNat x.dist.toNat o1 := by rw [← ho1]; unfold expT; rw [if_neg h]
   have ho1l : 0 < x.len.toNat → (x.dist.toNat ≤ o1.length ∧ 1 ≤ x.dist.toNat) := fun _ => by
    rw [if_neg h] at hxr
    rw [← ho1]; omega
   rw [ho1] at st hl6
   have hol : o1.length ≤ 1048576 := by rw [← ho1]; omega
   refine X_skip (X_blk (X_seq (X_reg ?_)))
   first | refine XR_a (op_field0 rfl rfl) rfl rfl ?_ | refine XR_a (op_fieldn rfl rfl) rfl rfl ?_
   refine XR_a (op_ld (st.cell 0 (i := 1) rfl rfl) rfl rfl rfl) rfl rfl ?_
   refine XR_as (nV x.len.toNat) (congrArg (Value.int .i64) (by omega)) ?_
   refine XV rfl rfl rfl (XR_nil (X_block ?_))
   refine X_loop (fun s => x.len.toNat - s.1) (fun s => [(1, nV most), (6, s.2.2), (8, .pointer (some ⟨p8, 0, none⟩)), (10, .slice (some ⟨g1, og, none⟩) n c), (11, nV n), (12, nV i), (46, nV x.len.toNat), (47, nV s.1)])
    (fun (s : Nat × List UInt8 × Value) hp => s.1 ≤ x.len.toNat ∧ copyT (x.len.toNat - s.1) x.dist.toNat s.2.1 = expT x out ∧ s.2.1.length = o1.length + s.1 ∧ St h0.size h0 hp [pt p8 65 (tokV x), row 5 1 s.2.2 (s.2.1.map byteV)])
    (0, o1, _) (.cons rfl (.cons rfl (.cons rfl (.cons rfl (.cons rfl (.cons rfl (.cons rfl (.cons rfl (.nil _))))))))) ⟨Nat.zero_le _, hE.symm, rfl, st⟩ ?_
   clear st
   rintro ⟨k, o2, v2⟩ hp ⟨hk1, hk2, hk3, st⟩
   simp only at hk1 hk2 hk3 st ⊢
   obtain ⟨A7, n7, c7, rfl, hl7, _, _, hr7⟩ := st.row 1 rfl
   rw [List.length_map, Nat.mul_one] at hl7
   subst hl7
   refine X_seq (X_reg ?_)
   refine XR_a (op_lss rfl rfl) rfl rfl ?_
   refine XR_nil (X_seq ?_)
   refine X_if rfl (fun h => ?_) (fun h => ?_)
   ·have hkL : k < x.len.toNat := by omega
    obtain ⟨hD1, hD2⟩ := ho1l (by omega)
    rw [copy_step hkL] at hk2
    obtain ⟨g7, o7, rfl, hc7⟩ := hr7.at_ (by rw [List.length_map]; omega)
    have hci := hc7 (o2.length - x.dist.toNat) (byteV (o2.getD (o2.length - x.dist.toNat) 0)) (by rw [List.getElem?_map, List.getElem?_eq_getElem (by omega), getD_at (by omega)]; rfl)
    refine X_skip (X_seq (X_block (X_seq (X_reg (XV rfl rfl rfl (XV rfl rfl rfl ?_))))))
    refine XR_a (op_len rfl rfl rfl) rfl rfl ?_
    first | refine XR_a (op_field0 rfl rfl) rfl rfl ?_ | refine XR_a (op_fieldn rfl rfl) rfl rfl ?_
    refine XR_a (op_ld (st.cell 0 (i := 2) rfl rfl) rfl rfl rfl) rfl rfl ?_
    refine XR_a (op_subI rfl rfl (by simp only [inK]; omega)) rfl rfl ?_
    refine XR_as (nV (o2.length - x.dist.toNat)) (congrArg (Value.int .i64) (by omega)) ?_
    refine XR_a (op_index1 (i := o2.length - x.dist.toNat) rfl rfl rfl (by omega)) rfl rfl ?_
    refine XR_a (op_ld (hci) rfl rfl rfl) rfl rfl ?_
    refine XA rfl rfl rfl (XR_nil (X_reg (XV rfl rfl rfl (XV rfl rfl rfl ?_))))
    refine XR_wa (opl_var1 (v := byteV (o2.getD (o2.length - x.dist.toNat) 0)) rfl rfl rfl) rfl rfl rfl ?_
    rintro _ hp ⟨Aq, rfl, hxq, hrq⟩
    replace st := st.ext hxq
    refine XR_wa (opl_append st 1 rfl (hrq) (rfl) (one_bytes [_]) (by simp; omega) rfl rfl rfl rfl rfl rfl rfl) rfl rfl rfl fun v hp st => ?_
    simp only [List.set_cons_zero, List.set_cons_succ] at st
    rw [show o2.map byteV ++ [byteV (o2.getD (o2.length - x.dist.toNat) 0)] = (o2 ++ [o2.getD (o2.length - x.dist.toNat) 0]).map byteV by rw [List.map_append]; rfl] at st
    refine XA rfl rfl rfl (XR_nil (X_blk (X_reg ?_)))
    first | refine XR_a (op_addN (n := 1) rfl rfl (by simp only [inK]; omega)) rfl rfl ?_ | refine XR_a (op_addI rfl rfl (by simp only [inK]; omega)) rfl rfl ?_ | refine XR_a (op_add rfl rfl) rfl rfl ?_
    refine XV rfl rfl rfl (XR_nil ?_)
    exact X_again (k + 1, _, _) (.cons rfl (.cons rfl (.cons rfl (.cons rfl (.cons rfl (.cons rfl (.cons rfl (.cons rfl (.nil _))))))))) ⟨by simp only; omega, hk2, by simp only [List.length_append, List.length_singleton]; omega, st⟩ (by simp only; omega)
   ·rw [show x.len.toNat - k = 0 by omega, copyT] at hk2
    rw [show o2.map byteV = (expL (ts.take (i + 1)) []).map byteV by rw [hk2, hex]] at st
    refine X_exit rfl (X_blk (X_reg ?_))
    first | refine XR_a (op_addN (n := 1) rfl rfl (by simp only [inK]; omega)) rfl rfl ?_ | refine XR_a (op_addI rfl rfl (by simp only [inK]; omega)) rfl rfl ?_ | refine XR_a (op_add rfl rfl) rfl rfl ?_
    refine XV rfl rfl rfl (XR_nil ?_)
    refine X_again (i + 1, _) (.cons rfl (.cons rfl (.cons rfl (.cons rfl (.cons rfl (.nil _)))))) ⟨by simp only; omega, ?_, ?_, st.tail⟩ (by simp only; omega)
    ·simp only; rw [hex, hxl]; exact hd2
    ·simp only; rw [hex, hxl]; omega
 ·refine X_exit rfl (X_seq (X_reg (XV rfl rfl rfl (XA rfl rfl rfl (XA rfl rfl rfl (XR_nil ?_))))))
  refine X_ret (.cons (.tmp rfl) (.cons (.tmp rfl) .nil)) ?_
  rw [List.take_of_length_le (by omega)] at st
  exact ⟨_, rfl, st⟩
end Go.Bn
end

section
set_option linter.unusedVariables false
set_option linter.unusedSimpArgs false
namespace Go.Bn
open Go
structure MapOk (es : Array MapEntry) (f : Int → Option Value) : Prop where
  keys : ∀ e ∈ es.toList, ∃ k, e.key = .int .i64 k
  nodup : (es.toList.map (·.key)).Nodup
  all : ∀ k v, f k = some v ↔ ∃ e ∈ es.toList, e.key = .int .i64 k ∧ e.val = v
theorem MapOk.empty : MapOk #[] (fun _ => none) := ⟨by simp, by simp, by simp⟩
theorem MapOk.isKey {es : Array MapEntry} {f : Int → Option Value} (h : MapOk es f) : ∀ x ∈ es.toList, MapKept.IsKey (.int .i64) x.key := fun x hx => by
 obtain ⟨k, hk⟩ := h.keys x hx
 rw [hk]; simp [MapKept.IsKey]
def putF (f : Int → Option Value) (k : Int) (v : Value) : Int → Option Value := fun j => if j = k then some v else f j
theorem MapOk.push {es : Array MapEntry} {f : Int → Option Value} (h : MapOk es f) {k : Int} (hk : ∀ x ∈ es.toList, x.key ≠ .int .i64 k) (v : Value) (born : Nat) : MapOk (es.push { key := .int .i64 k, val := v, born }) (putF f k v) := by
 refine ⟨fun e he => ?_, ?_, fun j u => ?_⟩
 ·simp only [Array.toList_push, List.mem_append, List.mem_singleton] at he
  rcases he with he | rfl
  ·exact h.keys e he
  ·exact ⟨k, rfl⟩
 ·simp only [Array.toList_push, List.map_append, List.map_cons, List.map_nil]
  refine List.nodup_append.2 ⟨h.nodup, by simp, ?_⟩
  intro a ha b hb
  simp only [List.mem_singleton] at hb
  subst hb
  obtain ⟨x, hx, rfl⟩ := List.mem_map.1 ha
  exact hk x hx
 ·unfold putF
  simp only [Array.toList_push, List.mem_append, List.mem_singleton]
  by_cases hj : j = k
  ·subst hj
   rw [if_pos rfl]
   constructor
   ·intro e; cases e; exact ⟨_, .inr rfl, rfl, rfl⟩
   ·rintro ⟨e, he | rfl, h1, h2⟩
    ·exact absurd h1 (hk e he)
    ·rw [← h2]
  ·rw [if_neg hj, h.all]
   constructor
   ·rintro ⟨e, he, h1, h2⟩; exact ⟨e, .inl he, h1, h2⟩
   ·rintro ⟨e, he | rfl, h1, h2⟩
    ·exact ⟨e, he, h1, h2⟩
    ·simp only [Value.int.injEq, true_and] at h1; exact absurd h1.symm hj
theorem MapOk.set {es : Array MapEntry} {f : Int → Option Value} (h : MapOk es f) {k : Int} {j : Nat} {e : MapEntry} (he : es.toList[j]? = some e) (hk : e.key = .int .i64 k) (v : Value) : MapOk (es.modify j fun e => { e with key := .int .i64 k, val := v }) (putF f k v) := by
 have hkeys := MapKept.modify_keys (es := es) j (fun e => { e with key := .int .i64 k, val := v }) (fun e' he' => by
  rw [Array.getElem?_toList] at he
  rw [he] at he'; cases he'; exact hk.symm)
 have hjl : j < es.toList.length := (List.getElem?_eq_some_iff.1 he).1
 have hge : es.toList[j] = e := (List.getElem?_eq_some_iff.1 he).2
 have hm : (es.modify j fun e => { e with key := .int .i64 k, val := v }).toList = es.toList.take j ++ { e with key := .int .i64 k, val := v } :: es.toList.drop (j + 1) := by
  rw [Array.toList_modify, List.modify_eq_take_cons_drop hjl, hge]
 have hL : es.toList = es.toList.take j ++ e :: es.toList.drop (j + 1) := by
  rw [← hge, ← List.drop_eq_getElem_cons hjl, List.take_append_drop]
 have hnd := h.nodup
 have hal := h.all
 have hke := h.keys
 refine ⟨fun e' he' => ?_, by rw [hkeys]; exact h.nodup, fun i u => ?_⟩
 ·have : e'.key ∈ (es.modify j fun e => { e with key := .int .i64 k, val := v }).toList.map (·.key) := List.mem_map.2 ⟨e', he', rfl⟩
  rw [hkeys] at this
  obtain ⟨x, hx, hxe⟩ := List.mem_map.1 this
  rw [← hxe]; exact h.keys x hx
 ·rw [hm]
  rw [hL] at hnd
  have hal := hal i u
  rw [hL] at hal
  obtain ⟨T, hT⟩ : ∃ T, es.toList.take j = T := ⟨_, rfl⟩
  obtain ⟨D, hD⟩ : ∃ D, es.toList.drop (j + 1) = D := ⟨_, rfl⟩
  rw [hT, hD] at hnd hal ⊢
  simp only [List.map_append, List.map_cons] at hnd
  obtain ⟨n1, n2, n3⟩ := List.nodup_append.1 hnd
  obtain ⟨n4, n5⟩ := List.nodup_cons.1 n2
  have hTk : ∀ x ∈ T, x.key ≠ .int .i64 k := fun x hx hh => n3 x.key (List.mem_map.2 ⟨x, hx, rfl⟩) e.key List.mem_cons_self (hh.trans hk.symm)
  have hDk : ∀ x ∈ D, x.key ≠ .int .i64 k := fun x hx hh => n4 (List.mem_map.2 ⟨x, hx, hh.trans hk.symm⟩)
  simp only [List.mem_append, List.mem_cons] at hal ⊢
  unfold putF
  by_cases hi : i = k
  ·subst hi
   rw [if_pos rfl]
   constructor
   ·intro hh; cases hh; exact ⟨_, .inr (.inl rfl), rfl, rfl⟩
   ·rintro ⟨x, hx | rfl | hx, h1, h2⟩
    ·exact absurd h1 (hTk x hx)
    ·rw [← h2]
    ·exact absurd h1 (hDk x hx)
  ·rw [if_neg hi, hal]
   constructor
   ·rintro ⟨x, hx | rfl | hx, h1, h2⟩
    ·exact ⟨x, .inl hx, h1, h2⟩
    ·rw [hk] at h1; simp only [Value.int.injEq, true_and] at h1; exact absurd h1.symm hi
    ·exact ⟨x, .inr (.inr hx), h1, h2⟩
   ·rintro ⟨x, hx | rfl | hx, h1, h2⟩
    ·exact ⟨x, .inl hx, h1, h2⟩
    ·simp only [Value.int.injEq, true_and] at h1; exact absurd h1.symm hi
    ·exact ⟨x, .inr (.inr hx), h1, h2⟩
def mapF (p : Nat) (f : Int → Option Value) : Res := exR fun (s : Array MapEntry × Nat) => andR (MapOk s.1 f) (obj p (.map s.1 s.2))
section
variable {P : Program} {E : Env} {hp : Heap} {cl : Cls} {d : Option Tmp} {ty : TypeId} {pos : String} {af : Array Edge} {g : Option (Nat × Bool)}
variable {x y z : Operand} {t t' : TypeId}
theorem opl_mkMapF : OpL P ⟨d, .makeMap t none, ty, pos, af, g⟩ E hp (fun v hp' => ∃ p, v = .map (some p) ∧ New (mapF p (fun _ => none)) hp hp') := by
 intro n a w ho hw K hK
 subst hw
 have hrun : (execOp a.eval ⟨d, .makeMap t none, ty, pos, af, g⟩).run P w = .ok (.value (.map (some w.heap.size))) { w with heap := w.heap.push (.map #[] 0) } := by
  simp [execOp, Instr.makeMap]
 simp only [Oper.wp, hrun, Oper.upon]
 refine hK _ _ ⟨rfl, rfl, rfl⟩ ⟨_, rfl, ?_⟩
 obtain ⟨h1, S, h2, h3⟩ := new_obj (.map #[] 0) w.heap
 exact ⟨h1, S, ⟨(#[], 0), MapOk.empty, h2⟩, h3⟩
theorem opl_mapPut {B : Nat} {h0 : Heap} {rs : List Res} (st : St B h0 hp rs) (j : Nat) {p : Nat} {f : Int → Option Value} {k : Int} {v : Value} (hj : rs[j]? = some (mapF p f)) (hx : ev E x = some (.map (some p))) (hy : ev E y = some (.int .i64 k)) (hz : ev E z = some v)
  (ht : mapI P t = true) : OpL P ⟨d, .mapUpdate t x y z, ty, pos, af, g⟩ E hp (fun _ hp' => St B h0 hp' (rs.set j (mapF p (putF f k v)))) := by
 intro n a w ho hw K hK
 subst hw
 obtain ⟨kt, e, hu, hk⟩ := mapI_spec ht
 obtain ⟨S, ⟨⟨es, clock⟩, hes, hS, hb⟩, _⟩ := st.at_ hj
 simp only at hes hb
 have fin : ∀ es' clock', MapOk es' (putF f k v) → St B h0 (w.heap.setIfInBounds p (.map es' clock')) (rs.set j (mapF p (putF f k v))) := fun es' clock' hok => st.upd hj ⟨by simp, fun S' hS' => by
  obtain ⟨⟨es1, clock1⟩, hes', hS1, hb1⟩ := hS'
  rw [hb] at hb1
  cases hb1
  refine ⟨S', ⟨(es', clock'), hok, hS1, ?_⟩, fun k hk => .inl hk, fun q _ hq => ?_⟩
  ·simp [(Array.getElem?_eq_some_iff.1 hb).1]
  ·exact Array.getElem?_setIfInBounds_ne (fun e => hq ((hS1 q).2 e.symm))⟩
 rcases MapKept.findNow_spec (d := .int .i64) (k := .int .i64 k) (by simp [MapKept.IsKey]) es.toList 0 hes.isKey with ⟨hf, hn⟩ | ⟨i, e', hf, he', hke⟩
 ·have hrun : (execOp a.eval ⟨d, .mapUpdate t x y z, ty, pos, af, g⟩).run P w = .ok .skip { w with heap := w.heap.setIfInBounds p (.map (es.push { key := .int .i64 k, val := v, born := clock }) (clock + 1)) } := by
   simp [execOp, ho.eval hx, ho.eval hy, ho.eval hz, Instr.mapUpdate, run_underlying hu, MapKept.run_getObj_map hb, run_checkKey_int hk, MapKept.run_findKey hk hf, MapKept.run_setObj_map _ hb]
  simp only [Oper.wp, hrun, Oper.upon]
  exact hK _ _ ⟨rfl, rfl, rfl⟩ (fin _ _ (hes.push hn v clock))
 ·rw [Nat.zero_add] at hf
  have hse : es[i]? = some e' := by rw [← Array.getElem?_toList]; exact he'
  have hrun : (execOp a.eval ⟨d, .mapUpdate t x y z, ty, pos, af, g⟩).run P w = .ok .skip { w with heap := w.heap.setIfInBounds p (.map (es.modify i fun e => { e with key := .int .i64 k, val := v }) clock) } := by
   simp [execOp, ho.eval hx, ho.eval hy, ho.eval hz, Instr.mapUpdate, run_underlying hu, MapKept.run_getObj_map hb, run_checkKey_int hk, MapKept.run_findKey hk hf, MapKept.run_setObj_map _ hb, hse, hke, Instr.keyThatStays, Instr.sameBits]
  simp only [Oper.wp, hrun, Oper.upon]
  exact hK _ _ ⟨rfl, rfl, rfl⟩ (fin _ _ (hes.set he' hke v))
def mapII (P : Program) (t : TypeId) : Bool :=
  match P.underlying t with
  | some (.map k e) => (match P.underlying k with | some (.int .i64) => true | _ => false) && (match P.info? e with | some { zero := some (.int .i64 0), .. } => true | _ => false)
  | _ => false
theorem mapII_spec (h : mapII P t = true) : ∃ k e, P.underlying t = some (.map k e) ∧ P.underlying k = some (.int .i64) ∧ ∀ w : World, (zeroValue e).run P w = .ok (.int .i64 0) w := by
 unfold mapII at h
 split at h
 ·rename_i k e hu
  simp only [Bool.and_eq_true] at h
  obtain ⟨h1, h2⟩ := h
  split at h1
  ·rename_i hk
   split at h2
   ·rename_i hz; exact ⟨k, e, hu, hk, fun w => by simp [zeroValue, typeInfo, hz]⟩
   ·cases h2
  ·cases h1
 ·cases h
theorem opl_mapAsk {B : Nat} {h0 : Heap} {rs : List Res} (st : St B h0 hp rs) (j : Nat) {p : Nat} {f : Int → Option Value} {k : Int} (hj : rs[j]? = some (mapF p f)) (hx : ev E x = some (.map (some p))) (hy : ev E y = some (.int .i64 k))
  (ht : mapII P t = true) : OpL P ⟨d, .lookup t x y true, ty, pos, af, g⟩ E hp (fun u hp' => u = .tuple #[(f k).getD (.int .i64 0), .bool (f k).isSome] ∧ hp = hp') := by
 intro n a w ho hw K hK
 subst hw
 obtain ⟨kt, e, hu, hk, hz⟩ := mapII_spec ht
 obtain ⟨S, ⟨⟨es, clock⟩, hes, hS, hb⟩, _⟩ := st.at_ hj
 simp only at hes hb
 rcases MapKept.findNow_spec (d := .int .i64) (k := .int .i64 k) (by simp [MapKept.IsKey]) es.toList 0 hes.isKey with ⟨hf, hn⟩ | ⟨i, e', hf, he', hke⟩
 ·have hnone : f k = none := by
   cases hfk : f k with
   | none => rfl
   | some v =>
    obtain ⟨e, he, h1, _⟩ := (hes.all k v).1 hfk
    exact absurd h1 (hn e he)
  have hrun : (execOp a.eval ⟨d, .lookup t x y true, ty, pos, af, g⟩).run P w = .ok (.value (.tuple #[.int .i64 0, .bool false])) w := by
   simp [execOp, ho.eval hx, ho.eval hy, Instr.lookup, run_underlying hu, MapKept.run_getObj_map hb, run_checkKey_int hk, MapKept.run_findKey hk hf, hz w]
  simp only [Oper.wp, hrun, Oper.upon]
  exact hK _ _ (Inv.refl w) ⟨by rw [hnone]; rfl, rfl⟩
 ·rw [Nat.zero_add] at hf
  have hsome : f k = some e'.val := (hes.all k e'.val).2 ⟨e', List.mem_of_getElem? he', hke, rfl⟩
  have hrun : (execOp a.eval ⟨d, .lookup t x y true, ty, pos, af, g⟩).run P w = .ok (.value (.tuple #[e'.val, .bool true])) w := by
   simp [execOp, ho.eval hx, ho.eval hy, Instr.lookup, run_underlying hu, MapKept.run_getObj_map hb, run_checkKey_int hk, MapKept.run_findKey hk hf]
  simp only [Oper.wp, hrun, Oper.upon]
  exact hK _ _ (Inv.refl w) ⟨by rw [hsome]; rfl, rfl⟩
end
end Go.Bn
end

section
set_option linter.unusedVariables false
set_option linter.unusedSimpArgs false
set_option maxHeartbeats 4000000
set_option maxRecDepth 20000
namespace Go.Bn
open Go Proofs
theorem mlen_spec {n c a d : Nat} {A : Option Addr} {b : List UInt8} {h0 : Heap} (hr : Rd h0 A (b.map byteV)) (hl : b.length = n) (hn : n ≤ 1099511627776) (ha : a ≤ 1099511627776) (hd : d ≤ 1099511627776) :
  Ret Tryz.prog 168 [.slice A n c, nV a, nV d] h0 fun v h' => v = nV (lenM b a d) ∧ h0 = h' := by
 have hout : (n ≤ a ∨ d < 1 ∨ 32768 < d ∨ a < d) → lenM b a d = 0 := fun h => by
  by_cases h0 : lenM b a d = 0
  ·exact h0
  ·have := lenM_in h0; omega
 refine ret_of_X Tryz.func168 rfl rfl fun w0 hw0 => ?_
 simp only [argE, Nat.zero_add, Nat.reduceAdd]
 refine X_seq (X_reg (XA rfl rfl rfl (XR_nil (X_seq (X_seq (X_reg (XV rfl rfl rfl ?_)))))))
 refine XR_a (op_lss rfl rfl) rfl rfl ?_
 refine XV rfl rfl rfl ?_
 refine XR_if 10 rfl (fun h => ?_) (fun h => ?_)
 ·exact absurd h (by omega)
 ·refine XV rfl rfl rfl (XV rfl rfl rfl ?_)
  refine XR_a (op_len rfl rfl rfl) rfl rfl ?_
  refine XR_a (op_geq rfl rfl) rfl rfl ?_
  refine XR_a (op_pick_f rfl rfl) rfl rfl (XV rfl rfl rfl ?_)
  refine XR_if 16 rfl (fun h => ?_) (fun h => ?_)
  ·have hz : lenM b a d = 0 := hout (by omega)
   refine XR_no rfl rfl (XR_no rfl rfl (XR_a (op_pick_t rfl rfl) rfl rfl (XV rfl rfl rfl (XR_no rfl rfl (XR_no rfl rfl (XR_a (op_pick_t rfl rfl) rfl rfl (XV rfl rfl rfl (XR_no rfl rfl (XR_no rfl rfl ?_)))))))))
   refine XR_no rfl rfl (XR_a (op_pick_t rfl rfl) rfl rfl (XR_nil (X_then rfl (X_seq (X_reg (XA rfl rfl rfl (XR_nil ?_)))))))
   refine X_ret (.cons (.tmp rfl) .nil) ?_
   rw [hz]
   exact ⟨rfl, rfl⟩
  ·refine XV rfl rfl rfl ?_
   refine XR_a (op_lss rfl rfl) rfl rfl ?_
   refine XR_a (op_pick_f rfl rfl) rfl rfl (XV rfl rfl rfl ?_)
   refine XR_if 20 rfl (fun h => ?_) (fun h => ?_)
   ·have hz : lenM b a d = 0 := hout (by omega)
    refine XR_no rfl rfl (XR_no rfl rfl (XR_a (op_pick_t rfl rfl) rfl rfl (XV rfl rfl rfl (XR_no rfl rfl (XR_no rfl rfl (XR_no rfl rfl (XR_a (op_pick_t rfl rfl) rfl rfl (XR_nil (X_then rfl ?_)))))))))
    refine X_seq (X_reg (XA rfl rfl rfl (XR_nil ?_)))
    refine X_ret (.cons (.tmp rfl) .nil) ?_
    rw [hz]
    exact ⟨rfl, rfl⟩
   ·refine XV rfl rfl rfl ?_
    refine XR_a (op_gtr rfl rfl) rfl rfl ?_
    refine XR_a (op_pick_f rfl rfl) rfl rfl (XV rfl rfl rfl ?_)
    refine XR_if 24 rfl (fun h => ?_) (fun h => ?_)
    ·have hz : lenM b a d = 0 := hout (by omega)
     refine XR_no rfl rfl (XR_no rfl rfl (XR_no rfl rfl (XR_a (op_pick_t rfl rfl) rfl rfl (XR_nil (X_then rfl (X_seq (X_reg (XA rfl rfl rfl (XR_nil ?_)))))))))
     refine X_ret (.cons (.tmp rfl) .nil) ?_
     rw [hz]
     exact ⟨rfl, rfl⟩
    ·refine XV rfl rfl rfl (XV rfl rfl rfl ?_)
     refine XR_a (op_gtr rfl rfl) rfl rfl ?_
     refine XR_a (op_pick_f rfl rfl) rfl rfl (XR_nil ?_)
     refine X_if rfl (fun h => ?_) (fun h => ?_)
     ·have hz : lenM b a d = 0 := hout (by omega)
      refine X_seq (X_reg (XA rfl rfl rfl (XR_nil ?_)))
      refine X_ret (.cons (.tmp rfl) .nil) ?_
      rw [hz]
      exact ⟨rfl, rfl⟩
     ·refine X_skip (X_seq (X_reg (XA rfl rfl rfl (XR_nil (X_seq (X_block ?_))))))
      obtain ⟨g, o, rfl, hc⟩ := hr.at_ (by rw [List.length_map]; omega)
      have hci : ∀ i (hi : i < b.length), cellH h0 ⟨g, o + i, none⟩ = some (byteV b[i]) := fun i hi => hc i _ (by rw [List.getElem?_map, List.getElem?_eq_getElem hi]; rfl)
      have hL : lenM b a d = min 258 (likeM (b.drop a) (b.drop (a - d))) := by unfold lenM; rw [if_neg (by omega)]
      refine X_loop (fun k => 258 - k) (fun k => [(0, .slice (some ⟨g, o, none⟩) n c), (1, nV a), (2, nV d), (7, nV k)])
       (fun (k : Nat) hp => h0 = hp ∧ k ≤ 258 ∧ a + k ≤ n ∧ k + likeM (b.drop (a + k)) (b.drop (a - d + k)) = likeM (b.drop a) (b.drop (a - d)))
       0 (.cons rfl (.cons rfl (.cons rfl (.cons rfl (.nil _))))) ⟨rfl, by omega, by omega, by rw [Nat.zero_add, Nat.add_zero, Nat.add_zero]⟩ ?_
      rintro k hp ⟨rfl, hk, hak, hlk⟩
      refine X_seq (X_seq ?_)
      refine X_draw byKind (by kernel_rfl) (by kernel_rfl) ?_
      refine XV rfl rfl rfl ?_
      refine XR_a (op_lss rfl rfl) rfl rfl ?_
      refine XV rfl rfl rfl ?_
      refine XR_if 31 rfl (fun h => ?_) (fun h => ?_)
      ·refine XV rfl rfl rfl (XV rfl rfl rfl ?_)
       first | refine XR_a (op_addN rfl rfl (by simp only [inK]; omega)) rfl rfl ?_ | refine XR_a (op_addI rfl rfl (by simp only [inK]; omega)) rfl rfl ?_ | refine XR_a (op_add rfl rfl) rfl rfl ?_
       refine XV rfl rfl rfl ?_
       refine XR_a (op_len rfl rfl rfl) rfl rfl ?_
       refine XR_a (op_lss rfl rfl) rfl rfl ?_
       refine XR_a (op_pick_t rfl rfl) rfl rfl (XV rfl rfl rfl ?_)
       refine XR_if 39 rfl (fun h => ?_) (fun h => ?_)
       ·have hst := likeM_at (b := b) (i := a + k) (j := a - d + k) (by omega) (by omega)
        refine XV rfl rfl rfl (XV rfl rfl rfl (XV rfl rfl rfl ?_))
        first | refine XR_a (op_addN rfl rfl (by simp only [inK]; omega)) rfl rfl ?_ | refine XR_a (op_addI rfl rfl (by simp only [inK]; omega)) rfl rfl ?_ | refine XR_a (op_add rfl rfl) rfl rfl ?_
        refine XR_a (op_index1 (i := a + k) rfl rfl rfl (by omega)) rfl rfl ?_
        refine XR_a (op_ld (hci (a + k) (by omega)) rfl rfl rfl) rfl rfl ?_
        refine XV rfl rfl rfl (XV rfl rfl rfl (XV rfl rfl rfl ?_))
        first | refine XR_a (op_addN rfl rfl (by simp only [inK]; omega)) rfl rfl ?_ | refine XR_a (op_addI rfl rfl (by simp only [inK]; omega)) rfl rfl ?_ | refine XR_a (op_add rfl rfl) rfl rfl ?_
        refine XV rfl rfl rfl ?_
        refine XR_a (op_subN rfl rfl (by omega) (by simp only [inK]; omega)) rfl rfl ?_
        refine XR_a (op_index1 (i := a + k - d) rfl rfl rfl (by omega)) rfl rfl ?_
        refine XR_a (op_ld (hci (a + k - d) (by omega)) rfl rfl rfl) rfl rfl ?_
        refine XR_a (op_eql rfl rfl) rfl rfl ?_
        refine XR_a (op_pick_t rfl rfl) rfl rfl (XR_nil ?_)
        refine X_if rfl (fun h => ?_) (fun h => ?_)
        ·refine X_skip (X_block (X_reg (XV rfl rfl rfl ?_)))
         first | refine XR_a (op_addN (n := 1) rfl rfl (by simp only [inK]; omega)) rfl rfl ?_ | refine XR_a (op_addI rfl rfl (by simp only [inK]; omega)) rfl rfl ?_ | refine XR_a (op_add rfl rfl) rfl rfl ?_
         refine XA rfl rfl rfl (XR_nil (X_blk ?_))
         exact X_again (k + 1) (.cons rfl (.cons rfl (.cons rfl (.cons rfl (.nil _))))) ⟨rfl, by omega, by omega, by
          have he : b[a + k]'(by omega) = b[a - d + k]'(by omega) := by
           have e1 : a + k - d = a - d + k := by omega
           simp only [e1] at h
           exact UInt8.toNat_inj.1 (by omega)
          rw [if_pos he] at hst
          rw [show a + (k + 1) = a + k + 1 by omega, show a - d + (k + 1) = a - d + k + 1 by omega]; omega⟩ (by omega)
        ·refine X_exit rfl (X_seq (X_reg (XV rfl rfl rfl (XA rfl rfl rfl (XR_nil ?_)))))
         refine X_ret (.cons (.tmp rfl) .nil) ?_
         have he : ¬ b[a + k]'(by omega) = b[a - d + k]'(by omega) := fun hh => by
          have e1 : a + k - d = a - d + k := by omega
          simp only [e1] at h
          rw [hh] at h
          exact h rfl
         rw [if_neg he] at hst
         rw [hL, show min 258 (likeM (b.drop a) (b.drop (a - d))) = k by omega]
         exact ⟨rfl, rfl⟩
       ·refine XR_no rfl rfl (XR_no rfl rfl (XR_no rfl rfl (XR_no rfl rfl (XR_no rfl rfl (XR_no rfl rfl (XR_no rfl rfl (XR_no rfl rfl (XR_no rfl rfl (XR_no rfl rfl ?_)))))))))
        refine XR_no rfl rfl (XR_no rfl rfl (XR_no rfl rfl (XR_no rfl rfl (XR_no rfl rfl (XR_a (op_pick_f rfl rfl) rfl rfl (XR_nil (X_else rfl (X_exit rfl (X_seq ?_)))))))))
        refine X_reg (XV rfl rfl rfl (XA rfl rfl rfl (XR_nil ?_)))
        refine X_ret (.cons (.tmp rfl) .nil) ?_
        rw [likeM_out (by omega)] at hlk
        rw [hL, show min 258 (likeM (b.drop a) (b.drop (a - d))) = k by omega]
        exact ⟨rfl, rfl⟩
      ·refine XR_no rfl rfl (XR_no rfl rfl (XR_no rfl rfl (XR_no rfl rfl (XR_no rfl rfl (XR_no rfl rfl (XR_a (op_pick_f rfl rfl) rfl rfl (XV rfl rfl rfl (XR_no rfl rfl (XR_no rfl rfl ?_)))))))))
       refine XR_no rfl rfl (XR_no rfl rfl (XR_no rfl rfl (XR_no rfl rfl (XR_no rfl rfl (XR_no rfl rfl (XR_no rfl rfl (XR_no rfl rfl (XR_no rfl rfl (XR_no rfl rfl ?_)))))))))
       refine XR_no rfl rfl (XR_no rfl rfl (XR_no rfl rfl (XR_a (op_pick_f rfl rfl) rfl rfl (XR_nil (X_else rfl (X_exit rfl (X_seq (X_reg (XV rfl rfl rfl ?_)))))))))
       refine XA rfl rfl rfl (XR_nil ?_)
       refine X_ret (.cons (.tmp rfl) .nil) ?_
       rw [hL, show min 258 (likeM (b.drop a) (b.drop (a - d))) = k by omega]
       exact ⟨rfl, rfl⟩
end Go.Bn
end

section
set_option linter.unusedVariables false
set_option linter.unusedSimpArgs false
set_option maxHeartbeats 4000000
set_option maxRecDepth 20000
namespace Go.Bn
open Go Proofs
theorem shl_or (x y k : Nat) (h : x < 2 ^ k) : x ||| y * 2 ^ k = x + y * 2 ^ k := by
 have := Nat.two_pow_add_eq_or_of_lt h y
 rw [Nat.or_comm, Nat.mul_comm, ← this]; omega
theorem mkey_spec {n c a : Nat} {A : Option Addr} {b : List UInt8} {h0 : Heap} (hr : Rd h0 A (b.map byteV)) (hl : b.length = n) (hn : n ≤ 1099511627776) (ha : a + 3 ≤ n) :
  Ret Tryz.prog 179 [.slice A n c, nV a] h0 fun v h' => v = nV (keyM b a) ∧ h0 = h' := by
 obtain ⟨g, o, rfl, hc⟩ := hr.at_ (by rw [List.length_map]; omega)
 have hci : ∀ i (hi : i < b.length), cellH h0 ⟨g, o + i, none⟩ = some (byteV b[i]) := fun i hi => hc i _ (by rw [List.getElem?_map, List.getElem?_eq_getElem hi]; rfl)
 have l1 := (b[a]'(by omega)).toNat_lt
 have l2 := (b[a + 1]'(by omega)).toNat_lt
 have l3 := (b[a + 2]'(by omega)).toNat_lt
 refine ret_of_X Tryz.func179 rfl rfl fun w0 hw0 => ?_
 simp only [argE, Nat.zero_add, Nat.reduceAdd]
 refine X_seq (X_reg (XA rfl rfl rfl (XR_nil (X_seq ?_))))
 refine X_draw byKind (by kernel_rfl) (by kernel_rfl) ?_
 refine XV rfl rfl rfl (XV rfl rfl rfl ?_)
 refine XR_a (op_index1 (i := a) rfl rfl rfl (by omega)) rfl rfl ?_
 refine XR_a (op_ld (hci a (by omega)) rfl rfl rfl) rfl rfl ?_
 first | refine XR_a (op_convI rfl rfl (by simp only [inK]; omega)) rfl rfl ?_ | refine XR_a (op_conv rfl rfl) rfl rfl ?_
 refine XR_as (nV (b[a]'(by omega)).toNat) rfl ?_
 refine XV rfl rfl rfl (XV rfl rfl rfl ?_)
 first | refine XR_a (op_addN (n := 1) rfl rfl (by simp only [inK]; omega)) rfl rfl ?_ | refine XR_a (op_addI rfl rfl (by simp only [inK]; omega)) rfl rfl ?_ | refine XR_a (op_add rfl rfl) rfl rfl ?_
 refine XR_a (op_index1 (i := a + 1) rfl rfl rfl (by omega)) rfl rfl ?_
 refine XR_a (op_ld (hci (a + 1) (by omega)) rfl rfl rfl) rfl rfl ?_
 first | refine XR_a (op_convI rfl rfl (by simp only [inK]; omega)) rfl rfl ?_ | refine XR_a (op_conv rfl rfl) rfl rfl ?_
 refine XR_as (nV (b[a + 1]'(by omega)).toNat) rfl ?_
 first | refine XR_a (op_shlC 8 rfl rfl (by decide) (by simp only [inK]; omega)) rfl rfl ?_ | refine XR_a (op_shlI 8 rfl rfl (by decide) (by simp only [inK]; omega)) rfl rfl ?_ | refine XR_a (op_shlN 8 rfl rfl (by decide)) rfl rfl ?_
 refine XR_a (op_orS rfl rfl (by omega) (by omega)) rfl rfl ?_
 rw [shl_or _ _ 8 (by omega)]
 refine XV rfl rfl rfl (XV rfl rfl rfl ?_)
 first | refine XR_a (op_addN (n := 2) rfl rfl (by simp only [inK]; omega)) rfl rfl ?_ | refine XR_a (op_addI rfl rfl (by simp only [inK]; omega)) rfl rfl ?_ | refine XR_a (op_add rfl rfl) rfl rfl ?_
 refine XR_a (op_index1 (i := a + 2) rfl rfl rfl (by omega)) rfl rfl ?_
 refine XR_a (op_ld (hci (a + 2) (by omega)) rfl rfl rfl) rfl rfl ?_
 first | refine XR_a (op_convI rfl rfl (by simp only [inK]; omega)) rfl rfl ?_ | refine XR_a (op_conv rfl rfl) rfl rfl ?_
 refine XR_as (nV (b[a + 2]'(by omega)).toNat) rfl ?_
 first | refine XR_a (op_shlC 16 rfl rfl (by decide) (by simp only [inK]; omega)) rfl rfl ?_ | refine XR_a (op_shlI 16 rfl rfl (by decide) (by simp only [inK]; omega)) rfl rfl ?_ | refine XR_a (op_shlN 16 rfl rfl (by decide)) rfl rfl ?_
 refine XR_a (op_orS rfl rfl (by omega) (by omega)) rfl rfl ?_
 rw [shl_or _ _ 16 (by omega)]
 refine XA rfl rfl rfl (XR_nil ?_)
 refine X_ret (.cons (.tmp rfl) .nil) ?_
 refine ⟨congrArg (Value.int .i64) (congrArg Nat.cast ?_), rfl⟩
 unfold keyM
 rw [getD_at (by omega), getD_at (by omega), getD_at (by omega)]
 omega
def lastF (b : List UInt8) (u : Nat) : Int → Option Value := fun k => if 0 ≤ k then (lastM b u k.toNat).map nV else none
theorem lastF_at (b : List UInt8) (u k : Nat) : lastF b u (k : Int) = (lastM b u k).map nV := by unfold lastF; rw [if_pos (by omega)]; rfl
theorem lastF_zero (b : List UInt8) : lastF b 0 = fun _ => none := by
 funext k; unfold lastF; split <;> rfl
theorem lastF_succ (b : List UInt8) (u : Nat) : lastF b (u + 1) = putF (lastF b u) (keyM b u : Nat) (nV u) := by
 funext k
 unfold putF
 dsimp only [lastF]
 by_cases hk : 0 ≤ k
 ·rw [if_pos hk, if_pos hk, lastM_succ]
  by_cases h : keyM b u = k.toNat
  ·rw [if_pos h, if_pos (by omega)]; rfl
  ·rw [if_neg h, if_neg (by omega)]
 ·rw [if_neg hk, if_neg hk, if_neg (by omega)]
def prevs (b : List UInt8) (u : Nat) : List Int := (List.range u).map fun i => optI (prevM b i)
theorem prevs_length (b : List UInt8) (u : Nat) : (prevs b u).length = u := by simp [prevs]
theorem prevs_succ (b : List UInt8) (u : Nat) : prevs b (u + 1) = prevs b u ++ [optI (prevM b u)] := by simp [prevs, List.range_succ]
theorem prevs_get {b : List UInt8} {u i : Nat} (h : i < u) : (prevs b u)[i]? = some (optI (prevM b i)) := by simp [prevs, h]
def finR (p : Nat) (A : Option Addr) (n c u : Nat) (b : List UInt8) : Res :=
  exR fun (x : Value × Nat) => starR (starR (row 3 1 x.1 ((prevs b u).map iV)) (mapF x.2 (lastF b u))) (pt p 245 [.slice A n c, .map (some x.2), x.1, nV u])
theorem St.fin {B : Nat} {h0 hp : Heap} {p n c u : Nat} {A : Option Addr} {b : List UInt8} {F : List Res} : St B h0 hp (finR p A n c u b :: F) ↔ ∃ v m, St B h0 hp (Bn.row 3 1 v ((prevs b u).map iV) :: mapF m (lastF b u) :: pt p 245 [.slice A n c, .map (some m), v, nV u] :: F) :=
 ⟨fun st => by
  obtain ⟨⟨v, m⟩, st⟩ := St.ex.1 st
  exact ⟨v, m, St.star.1 (St.star.1 st)⟩, fun ⟨v, m, st⟩ => St.ex.2 ⟨(v, m), St.star.2 (St.star.2 st)⟩⟩
theorem mnew_spec {n c : Nat} {A : Option Addr} {b : List UInt8} {h0 : Heap} :
  Ret Tryz.prog 128 [.slice A n c] h0 fun v h' => ∃ p, v = .pointer (some ⟨p, 0, none⟩) ∧ St h0.size h0 h' [finR p A n c 0 b] := by
 refine ret_of_X Tryz.func128 rfl rfl fun w0 hw0 => ?_
 simp only [argE, Nat.zero_add, Nat.reduceAdd]
 have st := St.start h0
 refine X_seq (X_reg (XA rfl rfl rfl (XR_nil (X_seq (X_reg (XV rfl rfl rfl ?_))))))
 refine XR_wa opl_mkMapF rfl rfl rfl ?_
 rintro _ hp ⟨m, rfl, hnew⟩
 replace st := st.new hnew
 refine XR_a (op_build (ps := [(0, .slice A n c), (1, .map (some m))]) (cs := #[.slice A n c, .map (some m), .slice none 0 0, nV 0]) rfl rfl) rfl rfl ?_
 refine XR_wa (opl_bx (cs := [.slice A n c, .map (some m), .slice none 0 0, nV 0]) rfl rfl) rfl rfl rfl ?_
 rintro _ hp ⟨p, rfl, hnew⟩
 replace st := st.new hnew
 refine XA rfl rfl rfl (XR_nil ?_)
 refine X_ret (.cons (.tmp rfl) .nil) ?_
 refine ⟨_, rfl, St.fin.2 ⟨.slice none 0 0, m, ?_⟩⟩
 rw [lastF_zero]
 exact (st.nilrow 3 1).re 3 [0, 2, 1] (by decide)
theorem mwhole_spec {B p n c u a : Nat} {A : Option Addr} {b : List UInt8} {F : List Res} {hb h0 : Heap} (st0 : St B hb h0 (finR p A n c u b :: F)) (hn : n ≤ 1099511627776) :
  Ret Tryz.prog 176 [.pointer (some ⟨p, 0, none⟩), nV a] h0 fun v h' => v = .bool (decide (a + 3 ≤ n)) ∧ h0 = h' := by
 obtain ⟨v, m, st⟩ := St.fin.1 st0
 refine ret_of_X Tryz.func176 rfl rfl fun w0 hw0 => ?_
 simp only [argE, Nat.zero_add, Nat.reduceAdd]
 refine X_seq (X_reg (XA rfl rfl rfl (XR_nil (X_seq (X_reg (XV rfl rfl rfl ?_))))))
 refine XR_a (op_geq rfl rfl) rfl rfl ?_
 refine XR_as (.bool true) (congrArg Value.bool (decide_eq_true (by omega))) ?_
 refine XV rfl rfl rfl (XV rfl rfl rfl (XV rfl rfl rfl (XR_a (op_nilCheck rfl) rfl rfl ?_)))
 first | refine XR_a (op_field0 rfl rfl) rfl rfl ?_ | refine XR_a (op_fieldn rfl rfl) rfl rfl ?_
 refine XR_a (op_ld (st.cell 2 (i := 0) rfl rfl) rfl rfl rfl) rfl rfl ?_
 refine XR_a (op_len rfl rfl rfl) rfl rfl ?_
 refine XR_a (op_subI rfl rfl (by simp only [inK]; omega)) rfl rfl ?_
 refine XR_a (op_leq rfl rfl) rfl rfl ?_
 refine XR_as (.bool (decide (a + 3 ≤ n))) (congrArg Value.bool (decide_eq_decide.2 ⟨fun _ => by omega, fun _ => by omega⟩)) ?_
 refine XR_a (op_pick_t rfl rfl) rfl rfl (XA rfl rfl rfl (XR_nil ?_))
 refine X_ret (.cons (.tmp rfl) .nil) ?_
 exact ⟨rfl, rfl⟩
theorem mlearn_spec {B p n c u a : Nat} {A : Option Addr} {b : List UInt8} {F : List Res} {h0 : Heap} (st0 : St B h0 h0 (finR p A n c u b :: F)) (hrB : ∀ h', Low B h0 h' → Rd h' A (b.map byteV)) (hl : b.length = n) (hn : n ≤ 1099511627776) (ha : a + 3 ≤ n) (hu : u ≤ n) :
  Ret Tryz.prog 177 [.pointer (some ⟨p, 0, none⟩), nV a] h0 fun _ h' => St B h0 h' (finR p A n c (max u (a + 1)) b :: F) := by
 refine ret_of_X Tryz.func177 rfl rfl fun w0 hw0 => ?_
 simp only [argE, Nat.zero_add, Nat.reduceAdd]
 refine X_block ?_
 refine X_loop (fun s => a + 1 - s) (fun s => [(0, .pointer (some ⟨p, 0, none⟩)), (1, nV a)])
  (fun (s : Nat) hp => s ≤ max u (a + 1) ∧ u ≤ s ∧ St B h0 hp (finR p A n c s b :: F))
  u (.cons rfl (.cons rfl (.nil _))) ⟨by omega, Nat.le_refl _, st0⟩ ?_
 clear st0
 rintro s hp ⟨hs1, hs2, st⟩
 obtain ⟨v, m, st⟩ := St.fin.1 st
 obtain ⟨Ap, np, cp, rfl, hlp, _⟩ := st.row 0 rfl
 rw [List.length_map, prevs_length, Nat.mul_one] at hlp
 refine X_seq (X_seq (X_reg (XV rfl rfl rfl (XR_a (op_nilCheck rfl) rfl rfl ?_))))
 first | refine XR_a (op_field0 rfl rfl) rfl rfl ?_ | refine XR_a (op_fieldn rfl rfl) rfl rfl ?_
 refine XR_a (op_ld (st.cell 2 (i := 3) rfl rfl) rfl rfl rfl) rfl rfl ?_
 refine XV rfl rfl rfl ?_
 refine XR_a (op_leq rfl rfl) rfl rfl ?_
 refine XR_nil ?_
 refine X_if rfl (fun h => ?_) (fun h => ?_)
 ·refine X_skip (X_seq (X_block (X_seq ?_)))
  refine X_draw (butAt [(8, .grow)]) (by kernel_rfl) (by kernel_rfl) ?_
  refine XV rfl rfl rfl (XR_a (op_nilCheck rfl) rfl rfl ?_)
  first | refine XR_a (op_field0 rfl rfl) rfl rfl ?_ | refine XR_a (op_fieldn rfl rfl) rfl rfl ?_
  refine XR_a (op_ld (st.cell 2 (i := 0) rfl rfl) rfl rfl rfl) rfl rfl ?_
  refine XV rfl rfl rfl (XR_a (op_nilCheck rfl) rfl rfl ?_)
  first | refine XR_a (op_field0 rfl rfl) rfl rfl ?_ | refine XR_a (op_fieldn rfl rfl) rfl rfl ?_
  refine XR_a (op_ld (st.cell 2 (i := 3) rfl rfl) rfl rfl rfl) rfl rfl ?_
  refine XR_ga (opl_call (mkey_spec (hrB _ st.low) hl hn (by omega)) rfl (by kernel_rfl)) rfl rfl rfl (fun _ _ h => h.2 ▸ Low.refl _ _) ?_
  rintro _ _ ⟨rfl, rfl⟩
  refine XA rfl rfl rfl (XR_nil (X_seq (X_reg (XV rfl rfl rfl (XR_a (op_nilCheck rfl) rfl rfl ?_)))))
  first | refine XR_a (op_field0 rfl rfl) rfl rfl ?_ | refine XR_a (op_fieldn rfl rfl) rfl rfl ?_
  refine XR_a (op_ld (st.cell 2 (i := 1) rfl rfl) rfl rfl rfl) rfl rfl ?_
  refine XV rfl rfl rfl ?_
  refine XR_wa (opl_mapAsk st 1 rfl rfl rfl (by kernel_rfl)) rfl rfl rfl ?_
  rintro _ _ ⟨rfl, rfl⟩
  have hlf : lastM b s (keyM b s) = prevM b s := rfl
  rw [lastF_at, hlf]
  obtain ⟨q, hq⟩ : ∃ q, prevM b s = q := ⟨_, rfl⟩
  rw [hq]
  by_cases hq1 : q.isSome = true
  ·obtain ⟨q', rfl⟩ := Option.isSome_iff_exists.1 hq1
   refine XR_as (.tuple #[nV q', .bool true]) rfl ?_
   refine XV rfl rfl rfl (XR_a (op_extract rfl rfl) rfl rfl (XR_a (op_extract rfl rfl) rfl rfl (XA rfl rfl rfl (XA rfl rfl rfl (XR_nil (X_seq (X_seq (X_reg (XV rfl rfl rfl ?_)))))))))
   refine XR_a (op_not rfl) rfl rfl ?_
   refine XR_as (.bool false) rfl ?_
   refine XR_nil (X_else rfl (X_skip (X_seq (X_reg (XV rfl rfl rfl (XV rfl rfl rfl (XR_a (op_nilCheck rfl) rfl rfl ?_)))))))
   first | refine XR_a (op_field0 rfl rfl) rfl rfl ?_ | refine XR_a (op_fieldn rfl rfl) rfl rfl ?_
   refine XR_a (op_ld (st.cell 2 (i := 2) rfl rfl) rfl rfl rfl) rfl rfl ?_
   refine XV rfl rfl rfl ?_
   refine XR_wa (opl_var1 (v := iV (optI (some q'))) rfl rfl rfl) rfl rfl rfl ?_
   rintro _ hp ⟨Aq, rfl, hxq, hrq⟩
   replace st := st.ext hxq
   refine XR_wa (opl_append st 0 rfl (hrq) (rfl) (one_iV [optI _]) (by simp [prevs_length]; omega) rfl rfl rfl rfl rfl rfl rfl) rfl rfl rfl fun v hp st => ?_
   simp only [List.set_cons_zero, List.set_cons_succ] at st
   rw [← hq, show (prevs b s).map iV ++ [iV (optI (prevM b s))] = (prevs b (s + 1)).map iV by rw [prevs_succ, List.map_append]; rfl] at st
   obtain ⟨A7, n7, c7, rfl, _⟩ := st.row 0 rfl
   refine XR_a (op_nilCheck rfl) rfl rfl ?_
   first | refine XR_a (op_field0 rfl rfl) rfl rfl ?_ | refine XR_a (op_fieldn rfl rfl) rfl rfl ?_
   refine XR_wn (opl_store_pt st 2 rfl rfl rfl rfl rfl (rfl)) rfl rfl fun _ hp st => ?_
   simp only [List.set_cons_zero, List.set_cons_succ] at st
   refine XR_nil ?_
   refine X_draw byKind (by kernel_rfl) (by kernel_rfl) ?_
   refine XV rfl rfl rfl (XR_a (op_nilCheck rfl) rfl rfl ?_)
   first | refine XR_a (op_field0 rfl rfl) rfl rfl ?_ | refine XR_a (op_fieldn rfl rfl) rfl rfl ?_
   refine XR_a (op_ld (st.cell 2 (i := 1) rfl rfl) rfl rfl rfl) rfl rfl ?_
   refine XV rfl rfl rfl (XV rfl rfl rfl (XR_a (op_nilCheck rfl) rfl rfl ?_))
   first | refine XR_a (op_field0 rfl rfl) rfl rfl ?_ | refine XR_a (op_fieldn rfl rfl) rfl rfl ?_
   refine XR_a (op_ld (st.cell 2 (i := 3) rfl rfl) rfl rfl rfl) rfl rfl ?_
   refine XR_wn (opl_mapPut st 1 rfl rfl rfl rfl (by kernel_rfl)) rfl rfl fun _ hp st => ?_
   simp only [List.set_cons_zero, List.set_cons_succ] at st
   rw [← lastF_succ] at st
   refine XR_nil (X_blk (X_reg (XV rfl rfl rfl (XR_a (op_nilCheck rfl) rfl rfl ?_))))
   first | refine XR_a (op_field0 rfl rfl) rfl rfl ?_ | refine XR_a (op_fieldn rfl rfl) rfl rfl ?_
   refine XR_a (op_ld (st.cell 2 (i := 3) rfl rfl) rfl rfl rfl) rfl rfl ?_
   first | refine XR_a (op_addN (n := 1) rfl rfl (by simp only [inK]; omega)) rfl rfl ?_ | refine XR_a (op_addI rfl rfl (by simp only [inK]; omega)) rfl rfl ?_ | refine XR_a (op_add rfl rfl) rfl rfl ?_
   refine XR_a (op_nilCheck rfl) rfl rfl ?_
   first | refine XR_a (op_field0 rfl rfl) rfl rfl ?_ | refine XR_a (op_fieldn rfl rfl) rfl rfl ?_
   refine XR_wn (opl_store_pt st 2 rfl rfl rfl rfl rfl (rfl)) rfl rfl fun _ hp st => ?_
   simp only [List.set_cons_zero, List.set_cons_succ] at st
   refine XR_nil ?_
   exact X_again (s + 1) (.cons rfl (.cons rfl (.nil _))) ⟨by omega, by omega, St.fin.2 ⟨_, _, st⟩⟩ (by omega)
  ·obtain rfl : q = none := by simpa using hq1
   refine XR_as (.tuple #[.int .i64 0, .bool false]) rfl ?_
   refine XV rfl rfl rfl (XR_a (op_extract rfl rfl) rfl rfl (XR_a (op_extract rfl rfl) rfl rfl (XA rfl rfl rfl (XA rfl rfl rfl (XR_nil (X_seq (X_seq (X_reg (XV rfl rfl rfl ?_)))))))))
   refine XR_a (op_not rfl) rfl rfl ?_
   refine XR_as (.bool true) rfl ?_
   refine XR_nil (X_then rfl (X_reg (XA rfl rfl rfl (XR_nil (X_seq (X_reg (XV rfl rfl rfl (XV rfl rfl rfl (XR_a (op_nilCheck rfl) rfl rfl ?_)))))))))
   first | refine XR_a (op_field0 rfl rfl) rfl rfl ?_ | refine XR_a (op_fieldn rfl rfl) rfl rfl ?_
   refine XR_a (op_ld (st.cell 2 (i := 2) rfl rfl) rfl rfl rfl) rfl rfl ?_
   refine XV rfl rfl rfl ?_
   refine XR_wa (opl_var1 (v := iV (optI none)) rfl rfl rfl) rfl rfl rfl ?_
   rintro _ hp ⟨Aq, rfl, hxq, hrq⟩
   replace st := st.ext hxq
   refine XR_wa (opl_append st 0 rfl (hrq) (rfl) (one_iV [optI _]) (by simp [prevs_length]; omega) rfl rfl rfl rfl rfl rfl rfl) rfl rfl rfl fun v hp st => ?_
   simp only [List.set_cons_zero, List.set_cons_succ] at st
   rw [← hq, show (prevs b s).map iV ++ [iV (optI (prevM b s))] = (prevs b (s + 1)).map iV by rw [prevs_succ, List.map_append]; rfl] at st
   obtain ⟨A7, n7, c7, rfl, _⟩ := st.row 0 rfl
   refine XR_a (op_nilCheck rfl) rfl rfl ?_
   first | refine XR_a (op_field0 rfl rfl) rfl rfl ?_ | refine XR_a (op_fieldn rfl rfl) rfl rfl ?_
   refine XR_wn (opl_store_pt st 2 rfl rfl rfl rfl rfl (rfl)) rfl rfl fun _ hp st => ?_
   simp only [List.set_cons_zero, List.set_cons_succ] at st
   refine XR_nil ?_
   refine X_draw byKind (by kernel_rfl) (by kernel_rfl) ?_
   refine XV rfl rfl rfl (XR_a (op_nilCheck rfl) rfl rfl ?_)
   first | refine XR_a (op_field0 rfl rfl) rfl rfl ?_ | refine XR_a (op_fieldn rfl rfl) rfl rfl ?_
   refine XR_a (op_ld (st.cell 2 (i := 1) rfl rfl) rfl rfl rfl) rfl rfl ?_
   refine XV rfl rfl rfl (XV rfl rfl rfl (XR_a (op_nilCheck rfl) rfl rfl ?_))
   first | refine XR_a (op_field0 rfl rfl) rfl rfl ?_ | refine XR_a (op_fieldn rfl rfl) rfl rfl ?_
   refine XR_a (op_ld (st.cell 2 (i := 3) rfl rfl) rfl rfl rfl) rfl rfl ?_
   refine XR_wn (opl_mapPut st 1 rfl rfl rfl rfl (by kernel_rfl)) rfl rfl fun _ hp st => ?_
   simp only [List.set_cons_zero, List.set_cons_succ] at st
   rw [← lastF_succ] at st
   refine XR_nil (X_blk (X_reg (XV rfl rfl rfl (XR_a (op_nilCheck rfl) rfl rfl ?_))))
   first | refine XR_a (op_field0 rfl rfl) rfl rfl ?_ | refine XR_a (op_fieldn rfl rfl) rfl rfl ?_
   refine XR_a (op_ld (st.cell 2 (i := 3) rfl rfl) rfl rfl rfl) rfl rfl ?_
   first | refine XR_a (op_addN (n := 1) rfl rfl (by simp only [inK]; omega)) rfl rfl ?_ | refine XR_a (op_addI rfl rfl (by simp only [inK]; omega)) rfl rfl ?_ | refine XR_a (op_add rfl rfl) rfl rfl ?_
   refine XR_a (op_nilCheck rfl) rfl rfl ?_
   first | refine XR_a (op_field0 rfl rfl) rfl rfl ?_ | refine XR_a (op_fieldn rfl rfl) rfl rfl ?_
   refine XR_wn (opl_store_pt st 2 rfl rfl rfl rfl rfl (rfl)) rfl rfl fun _ hp st => ?_
   simp only [List.set_cons_zero, List.set_cons_succ] at st
   refine XR_nil ?_
   exact X_again (s + 1) (.cons rfl (.cons rfl (.nil _))) ⟨by omega, by omega, St.fin.2 ⟨_, _, st⟩⟩ (by omega)
 ·refine X_exit rfl ?_
  refine X_end .nil ?_
  have he : s = max u (a + 1) := by omega
  rw [← he]
  exact St.fin.2 ⟨_, _, st⟩
theorem mchain_spec {p a : Nat} {h0 : Heap} : Ret Tryz.prog 167 [.pointer (some ⟨p, 0, none⟩), nV a] h0 fun v h' => ∃ p1 p2, v = .func (.func 175) #[] #[.pointer (some ⟨p1, 0, none⟩), .pointer (some ⟨p2, 0, none⟩)] ∧ St h0.size h0 h' [pt p2 3 [nV a], pt p1 217 [.pointer (some ⟨p, 0, none⟩)]] := by
 refine ret_of_X Tryz.func167 rfl rfl fun w0 hw0 => ?_
 simp only [argE, Nat.zero_add, Nat.reduceAdd]
 have st := St.start h0
 refine X_seq (X_reg ?_)
 refine XR_wa (opl_bx rfl rfl) rfl rfl rfl ?_
 rintro _ hp ⟨p1, rfl, hnew⟩
 replace st := st.new hnew
 refine XR_wa (opl_bx rfl rfl) rfl rfl rfl ?_
 rintro _ hp ⟨p2, rfl, hnew⟩
 replace st := st.new hnew
 refine XA rfl rfl rfl (XR_nil (X_seq (X_reg ?_)))
 refine XR_a (op_mkFunc rfl) rfl rfl ?_
 refine XA rfl rfl rfl (XR_nil ?_)
 refine X_ret (.cons (.tmp rfl) .nil) ?_
 exact ⟨_, _, rfl, st⟩
theorem mchain_iter {B y p1 p2 p n c u a : Nat} {A : Option Addr} {b : List UInt8} {F : List Res} {h0 : Heap} (JR JD : List Nat → List Res)
  (st0 : St B h0 h0 (finR p A n c u b :: pt p1 217 [.pointer (some ⟨p, 0, none⟩)] :: pt p2 3 [nV a] :: (JR [] ++ F))) (hrB : ∀ h', Low B h0 h' → Rd h' A (b.map byteV)) (hl : b.length = n) (hn : n ≤ 1099511627776) (hu : u ≤ n)
  (hround : ∀ (s : List Nat) (d : Nat) (r : List Nat) (u' : Nat) (F' : List Res) (h : Heap), Low B h0 h → s ++ d :: r = cands b a → 1 ≤ d → d ≤ a → a + 3 ≤ n → St B h h (JR s ++ (finR p A n c u' b :: F')) →
   RRet Tryz.prog y [nV d] h fun v h' => ∃ t, v = .bool t ∧ (t = true → St B h h' (JR (s ++ [d]) ++ (finR p A n c u' b :: F'))) ∧ (t = false → St B h h' (JD (s ++ [d]) ++ (finR p A n c u' b :: F')))) :
  Ret Tryz.prog 175 [.func (.yield y) #[] #[], .pointer (some ⟨p1, 0, none⟩), .pointer (some ⟨p2, 0, none⟩)] h0
   fun _ h' => ∃ u' P, u' ≤ n ∧ (P = JR (cands b a) ∨ ∃ s d r, s ++ d :: r = cands b a ∧ P = JD (s ++ [d])) ∧ St B h0 h' (finR p A n c u' b :: pt p1 217 [.pointer (some ⟨p, 0, none⟩)] :: pt p2 3 [nV a] :: (P ++ F)) := by
 refine ret_of_X Tryz.func175 rfl rfl fun w0 hw0 => ?_
 simp only [argE, Nat.zero_add, Nat.reduceAdd]
 have st := st0
 refine X_seq (X_seq (X_reg ?_))
 refine XR_a (op_ld (st.cell 1 (i := 0) rfl rfl) rfl rfl rfl) rfl rfl ?_
 refine XR_a (op_ld (st.cell 2 (i := 0) rfl rfl) rfl rfl rfl) rfl rfl ?_
 refine XR_wa (opl_call (mwhole_spec st hn) rfl (by kernel_rfl)) rfl rfl rfl ?_
 rintro _ _ ⟨rfl, rfl⟩
 first | refine XR_a (op_notd rfl) rfl rfl ?_ | refine XR_a (op_not rfl) rfl rfl ?_
 refine XR_nil ?_
 refine X_if rfl (fun h => ?_) (fun h => ?_)
 ·have hc0 : cands b a = [] := candN_short (by omega) a
  refine X_ret .nil ?_
  rw [hc0]
  exact ⟨u, _, hu, .inl rfl, st⟩
 ·have ha : a + 3 ≤ n := by omega
  refine X_skip (X_seq (X_reg ?_))
  refine XR_a (op_ld (st.cell 1 (i := 0) rfl rfl) rfl rfl rfl) rfl rfl ?_
  refine XR_a (op_ld (st.cell 2 (i := 0) rfl rfl) rfl rfl rfl) rfl rfl ?_
  refine XR_wa (opl_call (mlearn_spec st.here (fun h' hh => hrB h' (st.low.trans hh)) hl hn ha hu) rfl (by kernel_rfl)) rfl rfl rfl ?_
  rintro _ hp2 st2
  replace st := st.trans st2
  clear st2 st0
  obtain ⟨u', hu'⟩ : ∃ u', max u (a + 1) = u' := ⟨_, rfl⟩
  rw [hu'] at st
  have hau : a < u' := by omega
  have hun : u' ≤ n := by omega
  obtain ⟨v5, m5, sto⟩ := St.fin.1 st
  obtain ⟨A5, n5, c5, rfl, hl5, _, _, hr5⟩ := sto.row 0 rfl
  rw [List.length_map, prevs_length, Nat.mul_one] at hl5
  obtain ⟨g5, o5, rfl, hc5⟩ := hr5.at_ (by rw [List.length_map, prevs_length]; omega)
  refine XR_nil (X_seq ?_)
  refine X_draw byKind (by kernel_rfl) (by kernel_rfl) ?_
  refine XR_a (op_ld (st.cell 1 (i := 0) rfl rfl) rfl rfl rfl) rfl rfl ?_
  refine XR_a (op_nilCheck rfl) rfl rfl ?_
  first | refine XR_a (op_field0 rfl rfl) rfl rfl ?_ | refine XR_a (op_fieldn rfl rfl) rfl rfl ?_
  refine XR_a (op_ld (sto.cell 2 (i := 2) rfl rfl) rfl rfl rfl) rfl rfl ?_
  refine XR_a (op_ld (st.cell 2 (i := 0) rfl rfl) rfl rfl rfl) rfl rfl ?_
  refine XR_a (op_index1 (i := a) rfl rfl rfl (by omega)) rfl rfl ?_
  refine XR_a (op_ld (hc5 a (iV (optI (prevM b a))) (by rw [List.getElem?_map, prevs_get hau]; rfl)) rfl rfl rfl) rfl rfl ?_
  refine XA rfl rfl rfl (XR_nil (X_block ?_))
  refine X_loop (fun s => match s.2 with | none => 0 | some q => q + 1) (fun s => [(0, .func (.yield y) #[] #[]), (1, .pointer (some ⟨p1, 0, none⟩)), (2, .pointer (some ⟨p2, 0, none⟩)), (4, iV (optI s.2))])
   (fun (s : List Nat × Option Nat) hp => s.1 ++ tellM a (walkM b a s.2) = cands b a ∧ (∀ q, s.2 = some q → q < a ∧ keyM b q = keyM b a) ∧ St B h0 hp (finR p A n c u' b :: pt p1 217 [.pointer (some ⟨p, 0, none⟩)] :: pt p2 3 [nV a] :: (JR s.1 ++ F)))
   ([], prevM b a) (.cons rfl (.cons rfl (.cons rfl (.cons rfl (.nil _))))) ⟨by rw [cands_tell (by omega)]; rfl, fun q hq => lastM_lt hq, st⟩ ?_
  clear st sto hr5 hc5
  rintro ⟨s, q⟩ hp ⟨hs, hq, st⟩
  simp only at hs hq st ⊢
  refine X_seq (X_seq (X_reg (XV rfl rfl rfl ?_)))
  refine XR_a (op_geq rfl rfl) rfl rfl ?_
  by_cases hq1 : q.isSome = true
  ·obtain ⟨q', rfl⟩ := Option.isSome_iff_exists.1 hq1
   obtain ⟨hqa, hqk⟩ := hq q' rfl
   refine XR_as (.bool true) (congrArg Value.bool (decide_eq_true (by simp only [optI]; omega))) ?_
   refine XV rfl rfl rfl ?_
   refine XR_a (op_ld (st.cell 2 (i := 0) rfl rfl) rfl rfl rfl) rfl rfl ?_
   refine XV rfl rfl rfl ?_
   refine XR_a (op_subN (m := a) (n := q') rfl rfl (by omega) (by simp only [inK]; omega)) rfl rfl ?_
   refine XR_a (op_leq rfl rfl) rfl rfl ?_
   refine XR_a (op_pick_t rfl rfl) rfl rfl (XR_nil ?_)
   refine X_if rfl (fun h => ?_) (fun h => ?_)
   ·have hlen := keyM_len (b := b) (a := a) (d := a - q') (by omega) (by omega) (by omega) (by omega)
    rw [walk_next hqk, tellM_cons (by omega)] at hs
    refine X_skip (X_seq (X_block (X_seq (X_reg (XV rfl rfl rfl ?_)))))
    refine XR_a (op_ld (st.cell 2 (i := 0) rfl rfl) rfl rfl rfl) rfl rfl ?_
    refine XV rfl rfl rfl ?_
    refine XR_a (op_subN (m := a) (n := q') rfl rfl (by omega) (by simp only [inK]; omega)) rfl rfl ?_
    refine XR_ya (opy_yield rfl (hround s (a - q') (tellM a (walkM b a (prevM b q'))) u' (pt p1 217 [.pointer (some ⟨p, 0, none⟩)] :: pt p2 3 [nV a] :: F) _ st.low hs (by omega) (by omega) ha (st.here.perm (List.perm_append_comm_assoc [_, _, _] _ _))) rfl) rfl rfl rfl ?_
    rintro _ hp5 ⟨t, rfl, hT, hF⟩
    first | refine XR_a (op_notd rfl) rfl rfl ?_ | refine XR_a (op_not rfl) rfl rfl ?_
    refine XR_as (.bool (decide (t = false))) (congrArg Value.bool (by cases t <;> rfl)) ?_
    refine XR_nil ?_
    refine X_if rfl (fun h => ?_) (fun h => ?_)
    ·refine X_ret .nil ?_
     have hb : t = false := h
     exact ⟨u', _, hun, .inr ⟨s, a - q', _, hs, rfl⟩, st.trans ((hF hb).perm (List.perm_append_comm_assoc _ [_, _, _] _))⟩
    ·have hb : t = true := by cases t <;> simp at h ⊢
     replace st := st.trans ((hT hb).perm (List.perm_append_comm_assoc _ [_, _, _] _))
     obtain ⟨v6, m6, sto⟩ := St.fin.1 st
     obtain ⟨A6, n6, c6, rfl, hl6, _, _, hr6⟩ := sto.row 0 rfl
     rw [List.length_map, prevs_length, Nat.mul_one] at hl6
     obtain ⟨g6, o6, rfl, hc6⟩ := hr6.at_ (by rw [List.length_map, prevs_length]; omega)
     refine X_skip (X_blk (X_reg ?_))
     refine XR_a (op_ld (st.cell 1 (i := 0) rfl rfl) rfl rfl rfl) rfl rfl ?_
     refine XR_a (op_nilCheck rfl) rfl rfl ?_
     first | refine XR_a (op_field0 rfl rfl) rfl rfl ?_ | refine XR_a (op_fieldn rfl rfl) rfl rfl ?_
     refine XR_a (op_ld (sto.cell 2 (i := 2) rfl rfl) rfl rfl rfl) rfl rfl ?_
     refine XV rfl rfl rfl ?_
     refine XR_a (op_index1 (i := q') rfl rfl rfl (by omega)) rfl rfl ?_
     refine XR_a (op_ld (hc6 q' (iV (optI (prevM b q'))) (by rw [List.getElem?_map, prevs_get (by omega)]; rfl)) rfl rfl rfl) rfl rfl ?_
     refine XA rfl rfl rfl (XR_nil ?_)
     refine X_again (s ++ [a - q'], prevM b q') (.cons rfl (.cons rfl (.cons rfl (.cons rfl (.nil _))))) ⟨by simp only; rw [List.append_assoc]; exact hs, fun r hr => ?_, st⟩ ?_
     ·obtain ⟨g1, g2⟩ := lastM_lt hr
      exact ⟨by omega, g2.trans hqk⟩
     ·simp only
      cases hr : prevM b q' with
      | none => simp
      | some r => have := (lastM_lt hr).1; simp only; omega
   ·rw [walk_next hqk, tellM_stop (by omega), List.append_nil] at hs
    refine X_exit rfl ?_
    refine X_end .nil ?_
    exact ⟨u', _, hun, .inl rfl, by rw [← hs]; exact st⟩
  ·obtain rfl : q = none := by simpa using hq1
   refine XR_as (.bool false) (congrArg Value.bool (decide_eq_false (by simp only [optI]; omega))) ?_
   refine XV rfl rfl rfl (XR_no rfl rfl (XR_no rfl rfl (XR_no rfl rfl (XR_no rfl rfl (XR_a (op_pick_f rfl rfl) rfl rfl (XR_nil (X_else rfl (X_exit rfl ?_))))))))
   refine X_end .nil ?_
   rw [walkM, show tellM a [] = [] from rfl, List.append_nil] at hs
   exact ⟨u', _, hun, .inl rfl, by rw [← hs]; exact st⟩
end Go.Bn
end
