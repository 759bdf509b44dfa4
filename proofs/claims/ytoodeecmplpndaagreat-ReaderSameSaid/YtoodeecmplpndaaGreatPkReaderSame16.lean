/- Packed texts of a claim: what its theorem uses, joined. -/
import Derived.Test.YtoodeecmplpndaaGreatPkReaderSame15
section
set_option linter.unusedVariables false
set_option linter.unusedSimpArgs false
set_option maxHeartbeats 4000000
set_option maxRecDepth 20000
namespace Go.Bn
open Go Proofs
def foldP (f : Nat → Nat) (s : List Nat) : Nat × Nat := pickM f s.length s (0, 0)
theorem pickM_app (f : Nat → Nat) : ∀ (s : List Nat) (k : Nat) (r : List Nat) (st : Nat × Nat), s.length ≤ k → pickM f k (s ++ r) st = pickM f (k - s.length) r (pickM f s.length s st)
 | [], k, r, st, _ => by rw [List.nil_append]; rfl
 | d :: s, 0, r, st, h => by simp at h
 | d :: s, k + 1, r, st, h => by
  rw [List.cons_append, pickM, pickM_app f s k r _ (by simpa using h), List.length_cons, pickM, Nat.add_sub_add_right]
theorem foldP_snoc (f : Nat → Nat) (s : List Nat) (d : Nat) : foldP f (s ++ [d]) = if (foldP f s).1 < f d then (f d, d) else foldP f s := by
 unfold foldP
 rw [pickM_app f s _ [d] _ (by simp), List.length_append, List.length_singleton, Nat.add_sub_cancel_left]
 rfl
theorem foldP_all {f : Nat → Nat} {s : List Nat} {k : Nat} (h : s.length ≤ k) : pickM f k s (0, 0) = foldP f s := by
 have := pickM_app f s k [] (0, 0) h
 rw [List.append_nil, pickM_nil] at this
 exact this
theorem RVc {P : Program} {hp : Heap} {E : Env} {a : Tmp} {t : TypeId} {p : Nat} {v : Value} (h : E.get a = some (.pointer (some ⟨p, 0, none⟩))) (ht : single P t = true) (hc : cellH hp ⟨p, 0, none⟩ = some v) : RV P hp E (.cell a t) v :=
 .cell h fun w hw => run_loadVar_single ht (by rw [hw]; exact hc)
theorem mfind_spec {B p n c u a dep : Nat} {A : Option Addr} {b : List UInt8} {F : List Res} {h0 : Heap} (st0 : St B h0 h0 (finR p A n c u b :: F)) (hrB : ∀ h', Low B h0 h' → Rd h' A (b.map byteV)) (hl : b.length = n) (hn : n ≤ 1099511627776) (hu : u ≤ n) (ha : a ≤ n) (hd : 1 ≤ dep ∧ dep ≤ 256) :
  Ret Tryz.prog 155 [.pointer (some ⟨p, 0, none⟩), nV a, nV dep] h0 fun v h' => v = retVal [nV (bestM b a dep).1, nV (bestM b a dep).2] ∧ ∃ u', u' ≤ n ∧ St B h0 h' (finR p A n c u' b :: F) := by
 obtain ⟨f, hf⟩ : ∃ f, lenM b a = f := ⟨_, rfl⟩
 have hfl : ∀ d, f d ≤ 258 := fun d => by rw [← hf]; exact lenM_le b a d
 have hbest : bestM b a dep = pickM f dep (cands b a) (0, 0) := by rw [← hf]; rfl
 refine ret_of_X Tryz.func155 rfl rfl fun w0 hw0 => ?_
 simp only [argE, Nat.zero_add, Nat.reduceAdd]
 have st := st0
 refine X_seq (X_reg ?_)
 refine XR_wa (opl_bx rfl rfl) rfl rfl rfl ?_
 rintro _ hp ⟨p3, rfl, hnew⟩
 replace st := st.new hnew
 refine XR_wa (opl_bx rfl rfl) rfl rfl rfl ?_
 rintro _ hp ⟨p4, rfl, hnew⟩
 replace st := st.new hnew
 refine XR_wa (opl_bx rfl rfl) rfl rfl rfl ?_
 rintro _ hp ⟨p5, rfl, hnew⟩
 replace st := st.new hnew
 refine XR_wa (opl_new rfl) rfl rfl rfl ?_
 rintro _ hp ⟨p6, rfl, hnew⟩
 replace st := st.new hnew
 refine XR_wa (opl_new rfl) rfl rfl rfl ?_
 rintro _ hp ⟨p7, rfl, hnew⟩
 replace st := st.new hnew
 refine XR_nil ?_
 refine X_scope rfl (fun _ _ _ hh => hh) ?_
 refine X_seq (X_seq (X_reg ?_))
 refine XR_a (op_ld (st.cell 4 (i := 0) rfl rfl) rfl rfl rfl) rfl rfl ?_
 refine XR_a (op_ptr_nil rfl rfl rfl) rfl rfl ?_
 refine XV rfl rfl rfl ?_
 refine XR_a (op_ld (st.cell 2 (i := 0) rfl rfl) rfl rfl rfl) rfl rfl ?_
 refine XR_a (op_lss rfl rfl) rfl rfl ?_
 refine XR_as (.bool false) (congrArg Value.bool (decide_eq_false (by omega))) ?_
 refine XR_a (op_pick_f rfl rfl) rfl rfl (XR_nil (X_else rfl (X_skip (X_seq ?_))))
 refine X_label ?_
 refine X_seq (X_seq (X_reg ?_))
 refine XR_a (op_ld (st.cell 4 (i := 0) rfl rfl) rfl rfl rfl) rfl rfl ?_
 refine XR_a (op_ld (st.cell 3 (i := 0) rfl rfl) rfl rfl rfl) rfl rfl ?_
 refine XR_wa (opl_call (mchain_spec) rfl (by kernel_rfl)) rfl rfl rfl ?_
 rintro _ hp6 ⟨q1, q2, rfl, st2⟩
 replace st := st.join st2
 simp only [List.cons_append, List.nil_append] at st
 clear st2
 refine XR_nil (X_block ?_)
 refine X_rangeS st rfl rfl (by kernel_rfl) fun fn tmps L y d hp1 hL hok hx1 st1 => ?_
 obtain ⟨JR, hJR⟩ : ∃ JR : List Nat → List Res, JR = fun s => [andR (s.length < dep) (pt p5 3 [nV (dep - s.length)]), pt p6 3 [nV (foldP f s).1], pt p7 3 [nV (foldP f s).2], pt p3 217 [.pointer (some ⟨p, 0, none⟩)], pt p4 3 [nV a], obj y (L .ready none)] := ⟨_, rfl⟩
 obtain ⟨JD, hJD⟩ : ∃ JD : List Nat → List Res, JD = fun s => [andR (bestM b a dep = foldP f s) (pt p6 3 [nV (foldP f s).1]), pt p7 3 [nV (foldP f s).2], obj y (L .done (some (.exit 0)))] := ⟨_, rfl⟩
 have st2 := St.reF [_, _, _, _, _, _, _, _, _, _] 10 (F := F) st1 [6, 5, 4, 8, 7, 0, 9, 3, 2, 1] (by decide)
 simp only [List.map_cons, List.map_nil, getR, List.cons_append, List.nil_append] at st2
 have st3 : St B h0 hp1 (finR p A n c u b :: pt q1 217 [.pointer (some ⟨p, 0, none⟩)] :: pt q2 3 [nV a] :: (JR [] ++ (obj d (.deferred (some [])) :: F))) := by
  have s3 := (St.and.2 ⟨(show ([] : List Nat).length < dep by simp; omega), st2⟩)
  rw [hJR]
  exact St.reF [_, _, _, _, _, _, _, _, _, _] 10 (F := F) s3 [6, 7, 8, 0, 1, 2, 3, 4, 5, 9] (by decide)
 refine Ret.mono (mchain_iter (y := y) JR JD st3.here (fun h' hh => hrB h' (st3.low.trans hh)) hl hn hu ?_) ?_
 ·intro s x r u' F' h hlow hcs hx1' hxa ha3 st4
  subst hL
  subst hJR
  subst hJD
  simp only [List.cons_append, List.nil_append] at st4
  obtain ⟨hsd, st4⟩ := St.and.1 st4
  refine rret_of_X (st4.obj_at 5 rfl) hok rfl rfl fun w0 hw0 => ?_
  simp only [penv]
  have hsn := foldP_snoc f s x
  have hb2 : bestM b a dep = pickM f (dep - (s.length + 1)) r (foldP f (s ++ [x])) := by
   rw [hbest, ← hcs, show s ++ x :: r = (s ++ [x]) ++ r by simp, pickM_app f (s ++ [x]) dep r _ (by simp; omega)]
   rw [List.length_append, List.length_singleton]; unfold foldP; rw [List.length_append, List.length_singleton]
  obtain ⟨R, hR⟩ : ∃ R, foldP f s = R := ⟨_, rfl⟩
  rw [hR] at st4 hsn
  refine X_reg (XA rfl rfl rfl (XR_nil ?_))
  refine X_begin (st4.obj_at 5 rfl) ?_
  have st := st4.loop 5 .busy none rfl
  simp only [List.set_cons_zero, List.set_cons_succ] at st
  obtain ⟨v6, m6, sto⟩ := St.fin.1 (st.perm (List.perm_middle (l₁ := [_, _, _, _, _, _])))
  refine X_block (X_seq (X_seq ?_))
  refine X_draw (butAt [(6, .grow)]) (by kernel_rfl) (by kernel_rfl) ?_
  refine XR_a (op_ld (st.cell 3 (i := 0) rfl rfl) rfl rfl rfl) rfl rfl ?_
  refine XR_a (op_nilCheck rfl) rfl rfl ?_
  first | refine XR_a (op_field0 rfl rfl) rfl rfl ?_ | refine XR_a (op_fieldn rfl rfl) rfl rfl ?_
  refine XR_a (op_ld (sto.cell 2 (i := 0) rfl rfl) rfl rfl rfl) rfl rfl ?_
  refine XR_a (op_ld (st.cell 4 (i := 0) rfl rfl) rfl rfl rfl) rfl rfl ?_
  refine XV rfl rfl rfl ?_
  refine XR_ga (opl_call (mlen_spec (hrB _ (st3.low.trans (hlow.trans st.low))) hl hn (by omega) (by omega)) rfl (by kernel_rfl)) rfl rfl rfl (fun _ _ h => h.2 ▸ Low.refl _ _) ?_
  rintro _ _ ⟨rfl, rfl⟩
  have hfx : lenM b a x = f x := by rw [← hf]
  rw [hfx]
  clear sto
  refine XA rfl rfl rfl (XR_nil (X_seq (X_reg (XV rfl rfl rfl ?_))))
  refine XR_a (op_ld (st.cell 1 (i := 0) rfl rfl) rfl rfl rfl) rfl rfl ?_
  refine XR_a (op_gtr rfl rfl) rfl rfl ?_
  refine XR_nil ?_
  refine X_if rfl (fun h => ?_) (fun h => ?_)
  ·rw [if_pos (by omega)] at hsn
   refine X_reg (XV rfl rfl rfl (XV rfl rfl rfl ?_))
   refine XR_wn (opl_store_pt st 1 rfl rfl rfl rfl rfl (rfl)) rfl rfl fun _ hp st => ?_
   simp only [List.set_cons_zero, List.set_cons_succ] at st
   refine XR_wn (opl_store_pt st 2 rfl rfl rfl rfl rfl (rfl)) rfl rfl fun _ hp st => ?_
   simp only [List.set_cons_zero, List.set_cons_succ] at st
   refine XR_nil (X_seq (X_reg ?_))
   refine XR_a (op_ld (st.cell 0 (i := 0) rfl rfl) rfl rfl rfl) rfl rfl ?_
   refine XR_a (op_subN (m := dep - s.length) (n := 1) rfl rfl (by omega) (by simp only [inK]; omega)) rfl rfl ?_
   refine XR_wn (opl_store_pt st 0 rfl rfl rfl rfl rfl (rfl)) rfl rfl fun _ hp st => ?_
   simp only [List.set_cons_zero, List.set_cons_succ] at st
   refine XR_nil (X_seq (X_reg ?_))
   refine XR_a (op_ld (st.cell 0 (i := 0) rfl rfl) rfl rfl rfl) rfl rfl ?_
   refine XR_a (op_eql rfl rfl) rfl rfl ?_
   refine XV rfl rfl rfl ?_
   refine XR_if 36 rfl (fun h => ?_) (fun h => ?_)
   ·refine XR_no rfl rfl (XR_no rfl rfl (XR_a (op_pick_t rfl rfl) rfl rfl (XR_nil (X_then rfl ?_))))
    have hbf : bestM b a dep = foldP f (s ++ [x]) := by rw [hb2, show dep - (s.length + 1) = 0 by omega]; rfl
    refine X_rnd_exit rfl (st.obj_at 5 rfl) ⟨false, rfl, fun hh => absurd hh Bool.false_ne_true, fun _ => ?_⟩
    replace st := st.loop 5 .done (some (.exit 0)) rfl
    simp only [List.set_cons_zero, List.set_cons_succ] at st
    have st4 := (St.reF [_, _, _, _, _, _] 6 st [0, 3, 4, 1, 2, 5] (by decide)).tail.tail.tail
    simp only [List.map_cons, List.map_nil, getR, List.cons_append, List.nil_append] at st4
    exact St.and.2 ⟨hbf, by rw [hsn]; exact st4⟩
   ·refine XR_a (op_ld (st.cell 1 (i := 0) rfl rfl) rfl rfl rfl) rfl rfl ?_
    refine XR_a (op_eql rfl rfl) rfl rfl ?_
    refine XR_a (op_pick_f rfl rfl) rfl rfl (XR_nil ?_)
    refine X_if rfl (fun h => ?_) (fun h => ?_)
    ·have hbf : bestM b a dep = foldP f (s ++ [x]) := by rw [hb2]; exact pickM_full hfl _ _ _ (by rw [hsn]; first | omega | (simp only; omega))
     refine X_rnd_exit rfl (st.obj_at 5 rfl) ⟨false, rfl, fun hh => absurd hh Bool.false_ne_true, fun _ => ?_⟩
     replace st := st.loop 5 .done (some (.exit 0)) rfl
     simp only [List.set_cons_zero, List.set_cons_succ] at st
     have st4 := (St.reF [_, _, _, _, _, _] 6 st [0, 3, 4, 1, 2, 5] (by decide)).tail.tail.tail
     simp only [List.map_cons, List.map_nil, getR, List.cons_append, List.nil_append] at st4
     exact St.and.2 ⟨hbf, by rw [hsn]; exact st4⟩
    ·refine X_skip (X_blk ?_)
     refine X_rnd (st.obj_at 5 rfl) ⟨true, rfl, fun _ => ?_, fun hh => absurd hh.symm Bool.false_ne_true⟩
     replace st := st.loop 5 .ready none rfl
     simp only [List.set_cons_zero, List.set_cons_succ] at st
     rw [show dep - s.length - 1 = dep - (s ++ [x]).length by rw [List.length_append, List.length_singleton]; omega] at st
     exact St.and.2 ⟨by rw [List.length_append, List.length_singleton]; omega, by rw [hsn]; exact st⟩
  ·rw [if_neg (by omega)] at hsn
   refine X_skip (X_seq (X_reg ?_))
   refine XR_a (op_ld (st.cell 0 (i := 0) rfl rfl) rfl rfl rfl) rfl rfl ?_
   refine XR_a (op_subN (m := dep - s.length) (n := 1) rfl rfl (by omega) (by simp only [inK]; omega)) rfl rfl ?_
   refine XR_wn (opl_store_pt st 0 rfl rfl rfl rfl rfl (rfl)) rfl rfl fun _ hp st => ?_
   simp only [List.set_cons_zero, List.set_cons_succ] at st
   refine XR_nil (X_seq (X_reg ?_))
   refine XR_a (op_ld (st.cell 0 (i := 0) rfl rfl) rfl rfl rfl) rfl rfl ?_
   refine XR_a (op_eql rfl rfl) rfl rfl ?_
   refine XV rfl rfl rfl ?_
   refine XR_if 36 rfl (fun h => ?_) (fun h => ?_)
   ·refine XR_no rfl rfl (XR_no rfl rfl (XR_a (op_pick_t rfl rfl) rfl rfl (XR_nil (X_then rfl ?_))))
    have hbf : bestM b a dep = foldP f (s ++ [x]) := by rw [hb2, show dep - (s.length + 1) = 0 by omega]; rfl
    refine X_rnd_exit rfl (st.obj_at 5 rfl) ⟨false, rfl, fun hh => absurd hh Bool.false_ne_true, fun _ => ?_⟩
    replace st := st.loop 5 .done (some (.exit 0)) rfl
    simp only [List.set_cons_zero, List.set_cons_succ] at st
    have st4 := (St.reF [_, _, _, _, _, _] 6 st [0, 3, 4, 1, 2, 5] (by decide)).tail.tail.tail
    simp only [List.map_cons, List.map_nil, getR, List.cons_append, List.nil_append] at st4
    exact St.and.2 ⟨hbf, by rw [hsn]; exact st4⟩
   ·refine XR_a (op_ld (st.cell 1 (i := 0) rfl rfl) rfl rfl rfl) rfl rfl ?_
    refine XR_a (op_eql rfl rfl) rfl rfl ?_
    refine XR_a (op_pick_f rfl rfl) rfl rfl (XR_nil ?_)
    refine X_if rfl (fun h => ?_) (fun h => ?_)
    ·have hbf : bestM b a dep = foldP f (s ++ [x]) := by rw [hb2]; exact pickM_full hfl _ _ _ (by rw [hsn]; first | omega | (simp only; omega))
     refine X_rnd_exit rfl (st.obj_at 5 rfl) ⟨false, rfl, fun hh => absurd hh Bool.false_ne_true, fun _ => ?_⟩
     replace st := st.loop 5 .done (some (.exit 0)) rfl
     simp only [List.set_cons_zero, List.set_cons_succ] at st
     have st4 := (St.reF [_, _, _, _, _, _] 6 st [0, 3, 4, 1, 2, 5] (by decide)).tail.tail.tail
     simp only [List.map_cons, List.map_nil, getR, List.cons_append, List.nil_append] at st4
     exact St.and.2 ⟨hbf, by rw [hsn]; exact st4⟩
    ·refine X_skip (X_blk ?_)
     refine X_rnd (st.obj_at 5 rfl) ⟨true, rfl, fun _ => ?_, fun hh => absurd hh.symm Bool.false_ne_true⟩
     replace st := st.loop 5 .ready none rfl
     simp only [List.set_cons_zero, List.set_cons_succ] at st
     rw [show dep - s.length - 1 = dep - (s ++ [x]).length by rw [List.length_append, List.length_singleton]; omega] at st
     exact St.and.2 ⟨by rw [List.length_append, List.length_singleton]; omega, by rw [hsn]; exact st⟩
 rintro _ h' ⟨u', P, hun, hP, st4⟩
 have st5 := st3.trans st4
 clear st4
 rcases hP.symm with ⟨s, x, r, hcs, rfl⟩ | rfl
 ·subst hJD
  simp only [List.cons_append, List.nil_append] at st5
  have st6 := St.reF [_, _, _, _, _, _, _] 7 (F := F) st5 [5, 1, 2, 3, 4, 6, 0] (by decide)
  simp only [List.map_cons, List.map_nil, getR, List.cons_append, List.nil_append] at st6
  refine .inr ⟨.exit 0, _, st6, fun hp3 st7 => ?_⟩
  obtain ⟨hbf, st⟩ := St.and.1 st7.tail.tail.tail
  refine X_exit rfl (X_seq ?_)
  refine X_draw_two byKind [0] 1 [2, 3] 2 [1, 3] (by kernel_rfl) (by kernel_rfl) rfl rfl rfl ?_
  refine XR_a (op_ld (st.cell 0 (i := 0) rfl rfl) rfl rfl rfl) rfl rfl ?_
  refine XR_nil ?_
  refine X_alt (σ := Unit) (fun _ => [(6, .pointer (some ⟨p6, 0, none⟩)), (7, .pointer (some ⟨p7, 0, none⟩))]) (fun _ hp => St B h0 hp (pt p6 3 [nV (foldP f (s ++ [x])).1] :: pt p7 3 [nV (foldP f (s ++ [x])).2] :: obj d (.deferred (some [])) :: finR p A n c u' b :: F)) ?_ ?_ ?_
  ·refine XR_a (op_ld (st.cell 1 (i := 0) rfl rfl) rfl rfl rfl) rfl rfl ?_
   refine XR_wn (opl_store_pt st 0 rfl rfl rfl rfl rfl (rfl)) rfl rfl fun _ hp st => ?_
   simp only [List.set_cons_zero, List.set_cons_succ] at st
   refine XR_wn (opl_store_pt st 1 rfl rfl rfl rfl rfl (rfl)) rfl rfl fun _ hp st => ?_
   simp only [List.set_cons_zero, List.set_cons_succ] at st
   refine XR_nil ?_
   exact X_meet () (.cons rfl (.cons rfl (.nil _))) st
  ·refine XR_wn (opl_store_pt st 0 rfl rfl rfl rfl rfl (rfl)) rfl rfl fun _ hp st => ?_
   simp only [List.set_cons_zero, List.set_cons_succ] at st
   refine XR_a (op_ld (st.cell 1 (i := 0) rfl rfl) rfl rfl rfl) rfl rfl ?_
   refine XR_wn (opl_store_pt st 1 rfl rfl rfl rfl rfl (rfl)) rfl rfl fun _ hp st => ?_
   simp only [List.set_cons_zero, List.set_cons_succ] at st
   refine XR_nil ?_
   exact X_meet () (.cons rfl (.cons rfl (.nil _))) st
  clear st
  rintro ⟨⟩ hp st
  have stp := st.put 2 (.deferred none) rfl
  refine X_retM (d := d) (.cons (RVc rfl rfl (stp.cell 0 (i := 0) rfl rfl)) (.cons (RVc rfl rfl (stp.cell 1 (i := 0) rfl rfl)) .nil)) ?_ (st.obj_at 2 rfl)
  rw [hbf]
  exact ⟨rfl, u', hun, stp.tail.tail.tail⟩
 subst hJR
 simp only [List.cons_append, List.nil_append] at st5
 have st6 := St.reF [_, _, _, _, _, _, _, _, _, _] 10 (F := F) st5 [8, 1, 2, 3, 4, 5, 6, 7, 9, 0] (by decide)
 simp only [List.map_cons, List.map_nil, getR, List.cons_append, List.nil_append] at st6
 refine .inl ⟨_, st6, fun hp3 st7 => ?_⟩
 clear st5 st6
 obtain ⟨hcd, st8⟩ := St.and.1 st7.tail.tail.tail
 have st := (St.reF [_, _, _, _, _, _, _] 7 (F := F) st8 [0, 3, 4, 1, 2, 5, 6] (by decide)).tail.tail.tail
 simp only [List.map_cons, List.map_nil, getR, List.cons_append, List.nil_append] at st
 rw [foldP_all (by omega)] at hbest
 refine X_blk (X_seq ?_)
 refine X_draw_two byKind [0] 1 [2, 3] 2 [1, 3] (by kernel_rfl) (by kernel_rfl) rfl rfl rfl ?_
 refine XR_a (op_ld (st.cell 0 (i := 0) rfl rfl) rfl rfl rfl) rfl rfl ?_
 refine XR_nil ?_
 refine X_alt (σ := Unit) (fun _ => [(6, .pointer (some ⟨p6, 0, none⟩)), (7, .pointer (some ⟨p7, 0, none⟩))]) (fun _ hp => St B h0 hp (pt p6 3 [nV (foldP f (cands b a)).1] :: pt p7 3 [nV (foldP f (cands b a)).2] :: obj d (.deferred (some [])) :: finR p A n c u' b :: F)) ?_ ?_ ?_
 ·refine XR_a (op_ld (st.cell 1 (i := 0) rfl rfl) rfl rfl rfl) rfl rfl ?_
  refine XR_wn (opl_store_pt st 0 rfl rfl rfl rfl rfl (rfl)) rfl rfl fun _ hp st => ?_
  simp only [List.set_cons_zero, List.set_cons_succ] at st
  refine XR_wn (opl_store_pt st 1 rfl rfl rfl rfl rfl (rfl)) rfl rfl fun _ hp st => ?_
  simp only [List.set_cons_zero, List.set_cons_succ] at st
  refine XR_nil ?_
  exact X_meet () (.cons rfl (.cons rfl (.nil _))) st
 ·refine XR_wn (opl_store_pt st 0 rfl rfl rfl rfl rfl (rfl)) rfl rfl fun _ hp st => ?_
  simp only [List.set_cons_zero, List.set_cons_succ] at st
  refine XR_a (op_ld (st.cell 1 (i := 0) rfl rfl) rfl rfl rfl) rfl rfl ?_
  refine XR_wn (opl_store_pt st 1 rfl rfl rfl rfl rfl (rfl)) rfl rfl fun _ hp st => ?_
  simp only [List.set_cons_zero, List.set_cons_succ] at st
  refine XR_nil ?_
  exact X_meet () (.cons rfl (.cons rfl (.nil _))) st
 clear st
 rintro ⟨⟩ hp st
 have stp := st.put 2 (.deferred none) rfl
 refine X_retM (d := d) (.cons (RVc rfl rfl (stp.cell 0 (i := 0) rfl rfl)) (.cons (RVc rfl rfl (stp.cell 1 (i := 0) rfl rfl)) .nil)) ?_ (st.obj_at 2 rfl)
 rw [hbest]
 exact ⟨rfl, u', hun, stp.tail.tail.tail⟩
end Go.Bn
end

section
set_option linter.unusedVariables false
set_option linter.unusedSimpArgs false
set_option maxHeartbeats 4000000
set_option maxRecDepth 20000
namespace Go.Bn
open Go Proofs
theorem tdepth_spec (lv : Int) (h0 : Heap) : Ret Tryz.prog 129 [.int .i64 lv] h0 fun v h' => v = nV (depthM lv) ∧ h0 = h' := by
 refine ret_of_X Tryz.func129 rfl rfl fun w0 hw0 => ?_
 simp only [argE, Nat.zero_add, Nat.reduceAdd]
 refine X_seq (X_reg (XA rfl rfl rfl (XR_nil (X_seq (X_seq (X_reg (XV rfl rfl rfl ?_)))))))
 refine XR_a (op_min2 rfl rfl) rfl rfl ?_
 refine XR_a (op_max2 rfl rfl) rfl rfl ?_
 refine XR_nil (X_block (X_seq (X_reg ?_)))
 refine XR_a (op_eql rfl rfl) rfl rfl ?_
 refine XA rfl rfl rfl (XR_nil ?_)
 refine X_if rfl (fun h => ?_) (fun h => ?_)
 ·refine X_seq (X_reg (XA rfl rfl rfl (XR_nil ?_)))
  refine X_ret (.cons (.tmp rfl) .nil) ?_
  exact ⟨by rw [show depthM lv = 1 by unfold depthM; rw [if_pos (by omega)]]; rfl, rfl⟩
 ·refine X_seq (X_reg ?_)
  refine XR_a (op_eql rfl rfl) rfl rfl ?_
  refine XA rfl rfl rfl (XR_nil ?_)
  refine X_if rfl (fun h => ?_) (fun h => ?_)
  ·refine X_seq (X_reg (XA rfl rfl rfl (XR_nil ?_)))
   refine X_ret (.cons (.tmp rfl) .nil) ?_
   exact ⟨by rw [show depthM lv = 4 by unfold depthM; rw [if_neg (by omega), if_pos (by omega)]]; rfl, rfl⟩
  ·refine X_seq (X_reg ?_)
   refine XR_a (op_eql rfl rfl) rfl rfl ?_
   refine XA rfl rfl rfl (XR_nil ?_)
   refine X_if rfl (fun h => ?_) (fun h => ?_)
   ·refine X_seq (X_reg (XA rfl rfl rfl (XR_nil ?_)))
    refine X_ret (.cons (.tmp rfl) .nil) ?_
    exact ⟨by rw [show depthM lv = 32 by unfold depthM; rw [if_neg (by omega), if_neg (by omega), if_pos (by omega)]]; rfl, rfl⟩
   ·refine X_skip (X_blk (X_seq (X_reg (XA rfl rfl rfl (XR_nil ?_)))))
    refine X_ret (.cons (.tmp rfl) .nil) ?_
    exact ⟨by rw [show depthM lv = 256 by unfold depthM; rw [if_neg (by omega), if_neg (by omega), if_neg (by omega)]]; rfl, rfl⟩
@[reducible] def spC (A : Option Addr) (n c pf : Nat) (lv : Int) : List Value := [.slice A n c, .pointer (some ⟨pf, 0, none⟩), nV (depthM lv), .bool (decide (2 ≤ lv))]
theorem tnext_spec {B ps pf n c u a : Nat} {lv : Int} {A : Option Addr} {b : List UInt8} {F : List Res} {h0 : Heap} (st0 : St B h0 h0 (pt ps 220 (spC A n c pf lv) :: finR pf A n c u b :: F)) (hrB : ∀ h', Low B h0 h' → Rd h' A (b.map byteV)) (hl : b.length = n) (hn : n ≤ 1099511627776) (hu : u ≤ n) (ha : a < n) :
  Ret Tryz.prog 130 [.pointer (some ⟨ps, 0, none⟩), nV a] h0 fun v h' => v = .agg (tokV (tokM b lv a)).toArray ∧ ∃ u', u' ≤ n ∧ St B h0 h' (pt ps 220 (spC A n c pf lv) :: finR pf A n c u' b :: F) := by
 obtain ⟨T, hT⟩ : ∃ T, tokM b lv a = T := ⟨_, rfl⟩
 rw [hT]
 unfold tokM at hT
 have hdm := depthM_ok lv
 obtain ⟨R, hR⟩ : ∃ R, bestM b a (depthM lv) = R := ⟨_, rfl⟩
 obtain ⟨R2, hR2⟩ : ∃ R, bestM b (a + 1) (depthM lv) = R := ⟨_, rfl⟩
 rw [hR, hR2, getD_at (by omega)] at hT
 refine ret_of_X Tryz.func130 rfl rfl fun w0 hw0 => ?_
 simp only [argE, Nat.zero_add, Nat.reduceAdd]
 have st := st0
 refine X_seq (X_reg ?_)
 refine XR_wa (opl_new rfl) rfl rfl rfl ?_
 rintro _ hp ⟨p4, rfl, hnew⟩
 replace st := st.new hnew
 replace st : St B h0 hp (pt p4 65 (tokV Tok.nil) :: pt ps 220 (spC A n c pf lv) :: finR pf A n c u b :: F) := st
 refine XR_nil (X_seq ?_)
 refine X_draw byKind (by kernel_rfl) (by kernel_rfl) ?_
 refine XV rfl rfl rfl (XR_a (op_nilCheck rfl) rfl rfl ?_)
 first | refine XR_a (op_field0 rfl rfl) rfl rfl ?_ | refine XR_a (op_fieldn rfl rfl) rfl rfl ?_
 refine XR_a (op_ld (st.cell 1 (i := 1) rfl rfl) rfl rfl rfl) rfl rfl ?_
 refine XV rfl rfl rfl (XV rfl rfl rfl (XR_a (op_nilCheck rfl) rfl rfl ?_))
 first | refine XR_a (op_field0 rfl rfl) rfl rfl ?_ | refine XR_a (op_fieldn rfl rfl) rfl rfl ?_
 refine XR_a (op_ld (st.cell 1 (i := 2) rfl rfl) rfl rfl rfl) rfl rfl ?_
 refine XR_wa (opl_call (mfind_spec (St.reF [_, _, _] 3 (F := F) st.here [2, 0, 1] (by decide)) (fun h' hh => hrB h' (st.low.trans hh)) hl hn hu (by omega) hdm) rfl (by kernel_rfl)) rfl rfl rfl ?_
 rintro _ hp4 ⟨rfl, u1, hu1, st2⟩
 replace st := st.trans (St.reF [_, _, _] 3 (F := F) st2 [1, 2, 0] (by decide))
 simp only [List.map_cons, List.map_nil, getR, List.cons_append, List.nil_append] at st
 clear st2
 rw [hR]
 refine XV rfl rfl rfl (XR_a (op_extract rfl rfl) rfl rfl (XR_a (op_extract rfl rfl) rfl rfl (XA rfl rfl rfl (XA rfl rfl rfl (XR_nil (X_seq (X_seq (X_reg (XV rfl rfl rfl ?_)))))))))
 refine XR_a (op_eql rfl rfl) rfl rfl ?_
 refine XR_nil ?_
 refine X_if rfl (fun h => ?_) (fun h => ?_)
 ·rw [if_pos (.inl (by omega))] at hT
  subst hT
  obtain ⟨g, o, rfl, hc⟩ := (hrB _ st.low).at_ (by rw [List.length_map]; omega)
  have hci := hc a _ (by rw [List.getElem?_map, List.getElem?_eq_getElem (by omega)]; rfl)
  refine X_seq (X_reg (XV rfl rfl rfl (XR_a (op_nilCheck rfl) rfl rfl ?_)))
  first | refine XR_a (op_field0 rfl rfl) rfl rfl ?_ | refine XR_a (op_fieldn rfl rfl) rfl rfl ?_
  refine XR_a (op_ld (st.cell 1 (i := 0) rfl rfl) rfl rfl rfl) rfl rfl ?_
  refine XV rfl rfl rfl ?_
  refine XR_a (op_index1 (i := a) rfl rfl rfl (by omega)) rfl rfl ?_
  refine XR_a (op_ld (hci) rfl rfl rfl) rfl rfl ?_
  refine XR_a (op_build (ps := [(0, .int .u8 ((b[a]'(by omega)).toNat : Int))]) (cs := (tokV ⟨((b[a]'(by omega)).toNat : Int), 0, 0⟩).toArray) rfl rfl) rfl rfl ?_
  refine XR_wn (opl_store_whole (us := tokV ⟨((b[a]'(by omega)).toNat : Int), 0, 0⟩) st 0 rfl rfl rfl rfl rfl (tokV_one _) rfl) rfl rfl fun _ hp st => ?_
  simp only [List.set_cons_zero, List.set_cons_succ] at st
  refine XR_nil ?_
  refine X_ret (.cons (RV_agg (vs := tokV _) rfl rfl rfl (st.cells 0 rfl)) .nil) ?_
  exact ⟨rfl, u1, hu1, st.tail⟩
 ·refine X_skip (X_seq (X_seq (X_reg (XV rfl rfl rfl (XR_a (op_nilCheck rfl) rfl rfl ?_)))))
  first | refine XR_a (op_field0 rfl rfl) rfl rfl ?_ | refine XR_a (op_fieldn rfl rfl) rfl rfl ?_
  refine XR_a (op_ld (st.cell 1 (i := 3) rfl rfl) rfl rfl rfl) rfl rfl ?_
  refine XV rfl rfl rfl ?_
  refine XR_if 36 rfl (fun h => ?_) (fun h => ?_)
  ·refine XV rfl rfl rfl ?_
   refine XR_a (op_lss rfl rfl) rfl rfl ?_
   refine XR_a (op_pick_t rfl rfl) rfl rfl (XR_nil ?_)
   refine X_if rfl (fun h => ?_) (fun h => ?_)
   ·refine X_seq ?_
    refine X_draw byKind (by kernel_rfl) (by kernel_rfl) ?_
    refine XV rfl rfl rfl (XR_a (op_nilCheck rfl) rfl rfl ?_)
    first | refine XR_a (op_field0 rfl rfl) rfl rfl ?_ | refine XR_a (op_fieldn rfl rfl) rfl rfl ?_
    refine XR_a (op_ld (st.cell 1 (i := 1) rfl rfl) rfl rfl rfl) rfl rfl ?_
    refine XV rfl rfl rfl ?_
    first | refine XR_a (op_addN (n := 1) rfl rfl (by simp only [inK]; omega)) rfl rfl ?_ | refine XR_a (op_addI rfl rfl (by simp only [inK]; omega)) rfl rfl ?_ | refine XR_a (op_add rfl rfl) rfl rfl ?_
    refine XV rfl rfl rfl (XR_a (op_nilCheck rfl) rfl rfl ?_)
    first | refine XR_a (op_field0 rfl rfl) rfl rfl ?_ | refine XR_a (op_fieldn rfl rfl) rfl rfl ?_
    refine XR_a (op_ld (st.cell 1 (i := 2) rfl rfl) rfl rfl rfl) rfl rfl ?_
    refine XR_wa (opl_call (mfind_spec (St.reF [_, _, _] 3 (F := F) st.here [2, 0, 1] (by decide)) (fun h' hh => hrB h' (st.low.trans hh)) hl hn hu1 (by omega) hdm) rfl (by kernel_rfl)) rfl rfl rfl ?_
    rintro _ hp5 ⟨rfl, u2, hu2, st2⟩
    replace st := st.trans (St.reF [_, _, _] 3 (F := F) st2 [1, 2, 0] (by decide))
    simp only [List.map_cons, List.map_nil, getR, List.cons_append, List.nil_append] at st
    clear st2
    rw [hR2]
    refine XV rfl rfl rfl (XR_a (op_extract rfl rfl) rfl rfl (XR_a (op_extract rfl rfl) rfl rfl (XA rfl rfl rfl (XA rfl rfl rfl (XR_nil (X_seq (X_reg (XV rfl rfl rfl (XV rfl rfl rfl ?_)))))))))
    refine XR_a (op_gtr rfl rfl) rfl rfl ?_
    refine XR_nil ?_
    refine X_if rfl (fun h => ?_) (fun h => ?_)
    ·rw [if_pos (.inr ⟨by omega, by omega, by omega⟩)] at hT
     subst hT
     obtain ⟨g, o, rfl, hc⟩ := (hrB _ st.low).at_ (by rw [List.length_map]; omega)
     have hci := hc a _ (by rw [List.getElem?_map, List.getElem?_eq_getElem (by omega)]; rfl)
     refine X_seq (X_reg (XV rfl rfl rfl (XR_a (op_nilCheck rfl) rfl rfl ?_)))
     first | refine XR_a (op_field0 rfl rfl) rfl rfl ?_ | refine XR_a (op_fieldn rfl rfl) rfl rfl ?_
     refine XR_a (op_ld (st.cell 1 (i := 0) rfl rfl) rfl rfl rfl) rfl rfl ?_
     refine XV rfl rfl rfl ?_
     refine XR_a (op_index1 (i := a) rfl rfl rfl (by omega)) rfl rfl ?_
     refine XR_a (op_ld (hci) rfl rfl rfl) rfl rfl ?_
     refine XR_a (op_build (ps := [(0, .int .u8 ((b[a]'(by omega)).toNat : Int))]) (cs := (tokV ⟨((b[a]'(by omega)).toNat : Int), 0, 0⟩).toArray) rfl rfl) rfl rfl ?_
     refine XR_wn (opl_store_whole (us := tokV ⟨((b[a]'(by omega)).toNat : Int), 0, 0⟩) st 0 rfl rfl rfl rfl rfl (tokV_one _) rfl) rfl rfl fun _ hp st => ?_
     simp only [List.set_cons_zero, List.set_cons_succ] at st
     refine XR_nil ?_
     refine X_ret (.cons (RV_agg (vs := tokV _) rfl rfl rfl (st.cells 0 rfl)) .nil) ?_
     exact ⟨rfl, u2, hu2, st.tail⟩
    ·rw [if_neg (by omega)] at hT
     subst hT
     refine X_skip (X_seq (X_reg (XV rfl rfl rfl (XV rfl rfl rfl ?_))))
     refine XR_a (op_build (ps := [(1, nV R.1), (2, nV R.2)]) (cs := (tokV ⟨0, (R.1 : Int), (R.2 : Int)⟩).toArray) rfl rfl) rfl rfl ?_
     refine XR_wn (opl_store_whole (us := tokV ⟨0, (R.1 : Int), (R.2 : Int)⟩) st 0 rfl rfl rfl rfl rfl (tokV_one _) rfl) rfl rfl fun _ hp st => ?_
     simp only [List.set_cons_zero, List.set_cons_succ] at st
     refine XR_nil ?_
     refine X_ret (.cons (RV_agg (vs := tokV _) rfl rfl rfl (st.cells 0 rfl)) .nil) ?_
     exact ⟨rfl, _, by assumption, st.tail⟩
   ·rw [if_neg (by omega)] at hT
    subst hT
    refine X_skip (X_seq (X_reg (XV rfl rfl rfl (XV rfl rfl rfl ?_))))
    refine XR_a (op_build (ps := [(1, nV R.1), (2, nV R.2)]) (cs := (tokV ⟨0, (R.1 : Int), (R.2 : Int)⟩).toArray) rfl rfl) rfl rfl ?_
    refine XR_wn (opl_store_whole (us := tokV ⟨0, (R.1 : Int), (R.2 : Int)⟩) st 0 rfl rfl rfl rfl rfl (tokV_one _) rfl) rfl rfl fun _ hp st => ?_
    simp only [List.set_cons_zero, List.set_cons_succ] at st
    refine XR_nil ?_
    refine X_ret (.cons (RV_agg (vs := tokV _) rfl rfl rfl (st.cells 0 rfl)) .nil) ?_
    exact ⟨rfl, _, by assumption, st.tail⟩
  ·rw [if_neg (by omega)] at hT
   subst hT
   refine XR_no rfl rfl (XR_no rfl rfl (XR_a (op_pick_f rfl rfl) rfl rfl (XR_nil (X_else rfl (X_skip (X_seq (X_reg (XV rfl rfl rfl (XV rfl rfl rfl ?_)))))))))
   refine XR_a (op_build (ps := [(1, nV R.1), (2, nV R.2)]) (cs := (tokV ⟨0, (R.1 : Int), (R.2 : Int)⟩).toArray) rfl rfl) rfl rfl ?_
   refine XR_wn (opl_store_whole (us := tokV ⟨0, (R.1 : Int), (R.2 : Int)⟩) st 0 rfl rfl rfl rfl rfl (tokV_one _) rfl) rfl rfl fun _ hp st => ?_
   simp only [List.set_cons_zero, List.set_cons_succ] at st
   refine XR_nil ?_
   refine X_ret (.cons (RV_agg (vs := tokV _) rfl rfl rfl (st.cells 0 rfl)) .nil) ?_
   exact ⟨rfl, _, by assumption, st.tail⟩
theorem teach_spec {n c : Nat} {lv : Int} {A : Option Addr} {h0 : Heap} : Ret Tryz.prog 96 [.slice A n c, .int .i64 lv] h0 fun v h' => ∃ p1 p2, v = .func (.func 127) #[] #[.pointer (some ⟨p1, 0, none⟩), .pointer (some ⟨p2, 0, none⟩)] ∧ St h0.size h0 h' [pt p2 3 [.int .i64 lv], pt p1 22 [.slice A n c]] := by
 refine ret_of_X Tryz.func96 rfl rfl fun w0 hw0 => ?_
 simp only [argE, Nat.zero_add, Nat.reduceAdd]
 have st := St.start h0
 refine X_seq (X_reg ?_)
 refine XR_wa (opl_bx rfl rfl) rfl rfl rfl ?_
 rintro _ hp ⟨p1, rfl, hnew⟩
 replace st := st.new hnew
 refine XR_wa (opl_bx rfl rfl) rfl rfl rfl ?_
 rintro _ hp ⟨p2, rfl, hnew⟩
 replace st := st.new hnew
 refine XA rfl rfl rfl (XR_nil (X_seq (X_reg ?_)))
 refine XR_a (op_mkFunc rfl) rfl rfl ?_
 refine XA rfl rfl rfl (XR_nil ?_)
 refine X_ret (.cons (.tmp rfl) .nil) ?_
 exact ⟨_, _, rfl, st⟩
theorem splitF_step {b : List UInt8} {lv : Int} {a : Nat} (ha : a < b.length) : splitF b lv (b.length - a) a = tokM b lv a :: splitF b lv (b.length - (a + (tokM b lv a).size)) (a + (tokM b lv a).size) := by
 obtain ⟨_, _, _, h4, _⟩ := tokM_ok (lv := lv) ha
 have hp := Tok.size_pos (tokM b lv a)
 obtain ⟨g, hg⟩ : ∃ g, b.length - a = g + 1 := ⟨b.length - a - 1, by omega⟩
 rw [hg, splitF, if_pos ha, splitF_fuel g (b.length - (a + (tokM b lv a).size)) _ h4 (by omega) (by omega)]
theorem splitF_end {b : List UInt8} {lv : Int} {f a : Nat} (ha : b.length ≤ a) : splitF b lv f a = [] := by
 cases f with
 | zero => rfl
 | succ f => rw [splitF, if_neg (by omega)]
theorem teach_iter {B y p1 p2 n c : Nat} {lv : Int} {A : Option Addr} {b : List UInt8} {F : List Res} {h0 : Heap} (JR : List Tok → List Res) (st0 : St B h0 h0 (pt p2 3 [.int .i64 lv] :: pt p1 22 [.slice A n c] :: (JR [] ++ F)))
  (hrB : ∀ h', Low B h0 h' → Rd h' A (b.map byteV)) (hl : b.length = n) (hn : n ≤ 1099511627776)
  (hround : ∀ (s : List Tok) (x : Tok) (r : List Tok) (F' : List Res) (h : Heap), Low B h0 h → s ++ x :: r = splitL b lv → St B h h (JR s ++ F') → RRet Tryz.prog y [.agg (tokV x).toArray] h fun u h' => u = .bool true ∧ St B h h' (JR (s ++ [x]) ++ F')) :
  Ret Tryz.prog 127 [.func (.yield y) #[] #[], .pointer (some ⟨p1, 0, none⟩), .pointer (some ⟨p2, 0, none⟩)] h0 fun _ h' => St B h0 h' (JR (splitL b lv) ++ F) := by
 refine ret_of_X Tryz.func127 rfl rfl fun w0 hw0 => ?_
 simp only [argE, Nat.zero_add, Nat.reduceAdd]
 have st := st0
 refine X_seq ?_
 refine X_draw_in (butAt [(2, .grow), (4, .grow)]) [0, 1, 3, 5, 6, 2, 4, 7, 8, 9] (by kernel_rfl) (by kernel_rfl) rfl ?_
 refine XR_a (op_ld (st.cell 1 (i := 0) rfl rfl) rfl rfl rfl) rfl rfl ?_
 refine XR_a (op_ld (st.cell 1 (i := 0) rfl rfl) rfl rfl rfl) rfl rfl ?_
 refine XR_a (op_ld (st.cell 0 (i := 0) rfl rfl) rfl rfl rfl) rfl rfl ?_
 refine XR_a (op_ld (st.cell 0 (i := 0) rfl rfl) rfl rfl rfl) rfl rfl ?_
 refine XR_a (op_geq rfl rfl) rfl rfl ?_
 refine XR_ga (opl_call (mnew_spec (b := b)) rfl (by kernel_rfl)) rfl rfl rfl (fun _ _ ⟨_, _, h⟩ => h.low) ?_
 rintro _ hp1 ⟨pf, rfl, st2⟩
 replace st := st.join st2
 simp only [List.cons_append, List.nil_append] at st
 clear st2
 refine XR_ga (opl_call (tdepth_spec lv _) rfl (by kernel_rfl)) rfl rfl rfl (fun _ _ h => h.2 ▸ Low.refl _ _) ?_
 rintro _ _ ⟨rfl, rfl⟩
 refine XR_a (op_build (ps := [(0, .slice A n c), (1, .pointer (some ⟨pf, 0, none⟩)), (2, nV (depthM lv)), (3, .bool (decide (2 ≤ lv)))]) (cs := (spC A n c pf lv).toArray) rfl rfl) rfl rfl ?_
 refine XR_ga (opl_bx (cs := spC A n c pf lv) rfl rfl) rfl rfl rfl (fun _ _ ⟨_, _, e⟩ => e.1) ?_
 rintro _ hp ⟨ps, rfl, hnew⟩
 replace st := st.new hnew
 refine XA rfl rfl rfl (XR_nil (X_seq (X_reg (XA rfl rfl rfl (XR_nil (X_block ?_))))))
 refine X_loop (fun s => n - s.1) (fun s => [(0, .func (.yield y) #[] #[]), (1, .pointer (some ⟨p1, 0, none⟩)), (2, .pointer (some ⟨p2, 0, none⟩)), (4, .pointer (some ⟨ps, 0, none⟩)), (5, nV s.1)])
  (fun (s : Nat × Nat × List Tok) hp => s.1 ≤ n ∧ s.2.1 ≤ n ∧ s.2.2 ++ splitF b lv (b.length - s.1) s.1 = splitL b lv ∧ St B h0 hp (pt ps 220 (spC A n c pf lv) :: finR pf A n c s.2.1 b :: pt p2 3 [.int .i64 lv] :: pt p1 22 [.slice A n c] :: (JR s.2.2 ++ F)))
  (0, 0, []) (.cons rfl (.cons rfl (.cons rfl (.cons rfl (.cons rfl (.nil _)))))) ⟨Nat.zero_le _, Nat.zero_le _, rfl, st⟩ ?_
 clear st st0
 rintro ⟨a, u, s⟩ hp ⟨ha, hu, hs, st⟩
 simp only at ha hu hs st ⊢
 refine X_seq (X_seq (X_reg (XV rfl rfl rfl ?_)))
 refine XR_a (op_ld (st.cell 3 (i := 0) rfl rfl) rfl rfl rfl) rfl rfl ?_
 refine XR_a (op_len rfl rfl rfl) rfl rfl ?_
 refine XR_a (op_lss rfl rfl) rfl rfl ?_
 refine XR_nil ?_
 refine X_if rfl (fun h => ?_) (fun h => ?_)
 ·have hal : a < b.length := by omega
  rw [splitF_step hal] at hs
  obtain ⟨hx1, hx2, hx3, hx4, _⟩ := tokM_ok (lv := lv) hal
  have hxs := Tok.size_le hx1
  refine X_skip (X_block (X_seq (X_reg (XV rfl rfl rfl (XV rfl rfl rfl ?_)))))
  refine XR_wa (opl_call (tnext_spec st.here (fun h' hh => hrB h' (st.low.trans hh)) hl hn hu (by omega)) rfl (by kernel_rfl)) rfl rfl rfl ?_
  rintro _ hp2 ⟨rfl, u2, hu2, st2⟩
  replace st := st.trans st2
  clear st2
  obtain ⟨x, hx⟩ : ∃ x, tokM b lv a = x := ⟨_, rfl⟩
  rw [hx] at hs hx1 hx2 hx3 hx4 hxs ⊢
  refine XR_wa (opl_new rfl) rfl rfl rfl ?_
  rintro _ hp ⟨p6, rfl, hnew⟩
  replace st := st.new hnew
  refine XR_wn (opl_store_whole (us := tokV x) st 0 rfl rfl rfl rfl rfl (tokV_one x) rfl) rfl rfl fun _ hp st => ?_
  simp only [List.set_cons_zero] at st
  have st3 := st.perm (List.perm_append_comm_assoc [_, _, _, _, _] (JR s) F)
  refine XR_nil (X_seq (X_seq (X_reg (XV rfl rfl rfl ?_))))
  refine XR_a (op_ldA (vs := tokV x) (st.cells 0 rfl) rfl rfl rfl rfl) rfl rfl ?_
  refine XR_ya (opy_yield rfl (hround s x _ _ _ st3.low hs st3.here) rfl) rfl rfl rfl ?_
  rintro _ hp3 ⟨rfl, st4⟩
  replace st := (st3.trans st4).perm (List.perm_append_comm_assoc (JR (s ++ [x])) [pt p6 65 (tokV x), pt ps 220 (spC A n c pf lv), finR pf A n c u2 b, pt p2 3 [.int .i64 lv], pt p1 22 [.slice A n c]] F)
  first | refine XR_a (op_notd rfl) rfl rfl ?_ | refine XR_a (op_not rfl) rfl rfl ?_
  refine XR_nil (X_else rfl (X_skip (X_reg (XV rfl rfl rfl ?_))))
  first | refine XR_a (op_field0 rfl rfl) rfl rfl ?_ | refine XR_a (op_fieldn rfl rfl) rfl rfl ?_
  refine XR_a (op_ld (st.cell 0 (i := 1) rfl rfl) rfl rfl rfl) rfl rfl ?_
  refine XR_a (op_max2 rfl rfl) rfl rfl ?_
  refine XR_as (nV x.size) (congrArg (Value.int .i64) (by omega)) ?_
  first | refine XR_a (op_addN rfl rfl (by simp only [inK]; omega)) rfl rfl ?_ | refine XR_a (op_addI rfl rfl (by simp only [inK]; omega)) rfl rfl ?_ | refine XR_a (op_add rfl rfl) rfl rfl ?_
  refine XA rfl rfl rfl (XR_nil (X_blk ?_))
  exact X_again (a + x.size, u2, s ++ [x]) (.cons rfl (.cons rfl (.cons rfl (.cons rfl (.cons rfl (.nil _)))))) ⟨by simp only; omega, hu2, by simp only; rw [List.append_assoc]; exact hs, st.tail⟩ (by simp only; omega)
 ·refine X_exit rfl ?_
  refine X_end .nil ?_
  rw [splitF_end (by omega), List.append_nil] at hs
  rw [← hs]
  exact st.tail.tail.tail.tail
theorem appendSeq_toks {B gf : Nat} {lb : List Value} {P : List Tok} {F : List Res} {h0 : Heap} (st0 : St B h0 h0 F) (hc : callOk Tryz.prog gf = true) (hP : P.length ≤ 1048576)
  (hiter : ∀ (JR : List Tok → List Res) (G : List Res) (y : Nat) (h : Heap), Low B h0 h → St B h h (F ++ (JR [] ++ G)) →
   (∀ (s : List Tok) (x : Tok) (r : List Tok) (F' : List Res) (h' : Heap), Low B h h' → s ++ x :: r = P → St B h' h' (JR s ++ F') → RRet Tryz.prog y [.agg (tokV x).toArray] h' fun u h'' => u = .bool true ∧ St B h' h'' (JR (s ++ [x]) ++ F')) →
   Ret Tryz.prog gf (.func (.yield y) #[] #[] :: lb) h fun _ h' => St B h h' (JR P ++ G)) :
  Ret Tryz.prog 126 [.slice none 0 0, .func (.func gf) #[] lb.toArray] h0 fun v h' => St B h0 h' [Bn.row 65 3 v (P.flatMap tokV)] := by
 refine ret_of_X Tryz.func126 rfl rfl fun w0 hw0 => ?_
 simp only [argE, Nat.zero_add, Nat.reduceAdd]
 refine X_seq (X_reg ?_)
 refine XR_wa (opl_bx rfl rfl) rfl rfl rfl ?_
 rintro _ hp ⟨p, rfl, hnew⟩
 have st := (st0.new hnew).nilrow 65 3
 refine XA rfl rfl rfl (XR_nil (X_seq (X_seq (X_reg (XV rfl rfl rfl (XR_nil (X_block ?_)))))))
 refine X_rangeS st rfl rfl hc fun fn tmps L y d hp1 hL hok hx1 st1 => ?_
 obtain ⟨JR, hJR⟩ : ∃ JR : List Tok → List Res, JR = fun s => [obj y (L .ready none), exR fun v => starR (Bn.row 65 3 v (s.flatMap tokV)) (pt p 26 [v])] := ⟨_, rfl⟩
 have st2 : St B h0 hp1 (F ++ (JR [] ++ [obj d (.deferred (some []))])) := by
  have s3 : St B h0 hp1 (Bn.row 65 3 (.slice none 0 0) [] :: pt p 26 [.slice none 0 0] :: obj y (L .ready none) :: obj d (.deferred (some [])) :: F) :=
   st1.perm (List.perm_append_comm_assoc [obj y (L .ready none), obj d (.deferred (some []))] [Bn.row 65 3 (.slice none 0 0) [], pt p 26 [.slice none 0 0]] F)
  have s4 : St B h0 hp1 ((exR fun v => starR (Bn.row 65 3 v (([] : List Tok).flatMap tokV)) (pt p 26 [v])) :: obj y (L .ready none) :: obj d (.deferred (some [])) :: F) := St.ex.2 ⟨Value.slice none 0 0, St.star.2 s3⟩
  have s5 := s4.perm ((List.Perm.swap _ _ _).trans (List.perm_append_comm (l₁ := [obj y (L .ready none), exR fun v => starR (Bn.row 65 3 v (([] : List Tok).flatMap tokV)) (pt p 26 [v]), obj d (.deferred (some []))]) (l₂ := F)))
  rw [hJR]; exact s5
 refine Ret.mono (hiter JR [obj d (.deferred (some []))] y hp1 st2.low st2.here ?_) ?_
 ·intro s u0 r F' h hlow hsP st3
  subst hL
  subst hJR
  simp only [List.cons_append, List.nil_append] at st3
  have hsl : s.length < P.length := by rw [← hsP]; simp
  obtain ⟨v9, st3⟩ := St.ex.1 (st3.perm (List.Perm.swap _ _ _))
  have st := (St.star.1 st3)
  refine rret_of_X (st.obj_at 2 rfl) hok rfl rfl fun w0 hw0 => ?_
  simp only [penv]
  refine X_reg ?_
  refine XR_wa (opl_new rfl) rfl rfl rfl ?_
  rintro _ hp ⟨p5, rfl, hnew⟩
  replace st := st.new hnew
  refine XR_wn (opl_store_whole (us := tokV u0) st 0 rfl rfl rfl rfl rfl (tokV_one u0) rfl) rfl rfl fun _ hp st => ?_
  simp only [List.set_cons_zero] at st
  refine XR_nil ?_
  refine X_begin (st.obj_at 3 rfl) ?_
  replace st := st.loop 3 .busy none rfl
  simp only [List.set_cons_zero, List.set_cons_succ] at st
  refine X_block (X_reg ?_)
  refine XR_a (op_ld (st.cell 2 (i := 0) rfl rfl) rfl rfl rfl) rfl rfl ?_
  refine XR_a (op_ldA (vs := tokV u0) (st.cells 0 rfl) rfl rfl rfl rfl) rfl rfl ?_
  refine XR_wa (opl_varA (us := tokV u0) rfl rfl rfl rfl (by kernel_rfl)) rfl rfl rfl ?_
  rintro _ hp ⟨A, rfl, hx, hrd⟩
  replace st := st.ext hx
  refine XR_wa (opl_append st 1 rfl (hrd) (rfl) (tokV_one u0) (by rw [flat_length _ 3 (fun _ => rfl)]; simp [tokV]; omega) rfl rfl rfl rfl rfl rfl rfl) rfl rfl rfl fun v hp st => ?_
  simp only [List.set_cons_zero, List.set_cons_succ] at st
  have e2 : s.flatMap tokV ++ tokV u0 = (s ++ [u0]).flatMap tokV := by rw [List.flatMap_append]; simp
  rw [e2] at st
  obtain ⟨A6, n6, c6, rfl, _⟩ := st.row 1 rfl
  refine XR_wn (opl_store_pt st 2 rfl rfl rfl rfl rfl (rfl)) rfl rfl fun _ hp st => ?_
  simp only [List.set_cons_zero, List.set_cons_succ] at st
  refine XR_nil (X_blk ?_)
  refine X_rnd (st.obj_at 3 rfl) ⟨rfl, ?_⟩
  replace st := st.loop 3 .ready none rfl
  simp only [List.set_cons_zero, List.set_cons_succ] at st
  have s6 := (St.ex.2 ⟨_, St.star.2 st.tail⟩ : St B h _ ((exR fun v => starR (Bn.row 65 3 v ((s ++ [u0]).flatMap tokV)) (pt p 26 [v])) :: _))
  exact s6.perm (List.Perm.swap _ _ _)
 rintro _ h' st3
 subst hJR
 simp only [List.cons_append, List.nil_append] at st3
 refine .inl ⟨_, st2.trans st3, fun hp3 st4 => ?_⟩
 obtain ⟨v9, st4⟩ := St.ex.1 (st4.perm (List.Perm.swap _ _ _))
 have st := St.star.1 st4
 refine X_blk (X_seq (X_reg ?_))
 refine XR_a (op_ld (st.cell 1 (i := 0) rfl rfl) rfl rfl rfl) rfl rfl ?_
 refine XA rfl rfl rfl (XR_nil ?_)
 refine X_retM (d := d) (.cons (.tmp rfl) .nil) ?_ (st.obj_at 3 rfl)
 replace st := st.put 3 (.deferred none) rfl
 exact st.keep 1
theorem collect_toks {B gf : Nat} {lb : List Value} {P : List Tok} {F : List Res} {h0 : Heap} (st0 : St B h0 h0 F) (hc : callOk Tryz.prog gf = true) (hP : P.length ≤ 1048576)
  (hiter : ∀ (JR : List Tok → List Res) (G : List Res) (y : Nat) (h : Heap), Low B h0 h → St B h h (F ++ (JR [] ++ G)) →
   (∀ (s : List Tok) (x : Tok) (r : List Tok) (F' : List Res) (h' : Heap), Low B h h' → s ++ x :: r = P → St B h' h' (JR s ++ F') → RRet Tryz.prog y [.agg (tokV x).toArray] h' fun u h'' => u = .bool true ∧ St B h' h'' (JR (s ++ [x]) ++ F')) →
   Ret Tryz.prog gf (.func (.yield y) #[] #[] :: lb) h fun _ h' => St B h h' (JR P ++ G)) :
  Ret Tryz.prog 95 [.func (.func gf) #[] lb.toArray] h0 fun v h' => St B h0 h' [Bn.row 65 3 v (P.flatMap tokV)] := by
 refine ret_of_X Tryz.func95 rfl rfl fun w0 hw0 => ?_
 simp only [argE, Nat.zero_add, Nat.reduceAdd]
 refine X_seq (X_reg (XA rfl rfl rfl (XR_nil (X_seq (X_reg (XV rfl rfl rfl ?_))))))
 refine XR_wa (opl_call (appendSeq_toks st0 hc hP hiter) rfl (by kernel_rfl)) rfl rfl rfl ?_
 rintro v hp h
 refine XA rfl rfl rfl (XR_nil ?_)
 refine X_ret (.cons (.tmp rfl) .nil) ?_
 exact h
theorem tsplit_spec {n c : Nat} {lv : Int} {A : Option Addr} {b : List UInt8} {h0 : Heap} (hr : Rd h0 A (b.map byteV)) (hl : b.length = n) (hn : n ≤ 1048576) :
  Ret Tryz.prog 58 [.slice A n c, .int .i64 lv] h0 fun v h' => St h0.size h0 h' [row 65 3 v ((splitL b lv).flatMap tokV)] := by
 have hpl : (splitL b lv).length ≤ b.length := by
  obtain ⟨_, _, _, h4, _⟩ := splitF_ok (b := b) (lv := lv) b.length 0 (Nat.zero_le _) (by omega)
  unfold splitL; omega
 refine ret_of_X Tryz.func58 rfl rfl fun w0 hw0 => ?_
 simp only [argE, Nat.zero_add, Nat.reduceAdd]
 refine X_seq (X_reg (XA rfl rfl rfl (XR_nil (X_seq (X_reg (XV rfl rfl rfl (XV rfl rfl rfl ?_)))))))
 refine XR_wa (opl_call (teach_spec) rfl (by kernel_rfl)) rfl rfl rfl ?_
 rintro _ hp ⟨p1, p2, rfl, st⟩
 refine XR_wa (opl_call (collect_toks (P := splitL b lv) (lb := [.pointer (some ⟨p1, 0, none⟩), .pointer (some ⟨p2, 0, none⟩)]) st.here (by kernel_rfl) (by omega) (fun JR G y h hlow s hround => teach_iter JR s (fun h' hh => hr.ext ((st.low.trans hlow).trans hh)) hl (by omega) hround)) rfl (by kernel_rfl)) rfl rfl rfl ?_
 rintro v hp2 st2
 refine XA rfl rfl rfl (XR_nil ?_)
 refine X_ret (.cons (.tmp rfl) .nil) ?_
 exact st.trans st2
end Go.Bn
end

section
set_option linter.unusedVariables false
set_option linter.unusedSimpArgs false
set_option maxHeartbeats 4000000
set_option maxRecDepth 20000
namespace Go.Bn
open Go Proofs
theorem brows_spec {B n c : Nat} {A : Option Addr} {ts : List Tok} {F : List Res} {h0 : Heap} (st0 : St B h0 h0 F) (hrB : ∀ h', Low B h0 h' → Rd h' A (ts.flatMap tokV)) (hl : ts.length = n) (hn : n ≤ 17592186044416) (hby : ∀ t ∈ ts, 0 ≤ t.byte ∧ t.byte < 256) :
  Ret Tryz.prog 41 [.slice A n c] h0 fun v h' => ∃ w, v = retVal [w, .bool (decide (rightL ts))] ∧ (rightL ts → St B h0 h' (row 94 7 w ((ts.map splitY).flatMap syV) :: F)) ∧ (¬ rightL ts → St B h0 h' F) := by
 refine ret_of_X Tryz.func41 rfl rfl fun w0 hw0 => ?_
 simp only [argE, Nat.zero_add, Nat.reduceAdd]
 have st := st0
 refine X_seq (X_reg (XA rfl rfl rfl (XA rfl rfl rfl (XR_nil ?_))))
 refine X_scope rfl (fun _ _ _ hh => hh) ?_
 refine X_seq (X_seq (X_reg (XV rfl rfl rfl ?_)))
 refine XR_a (op_len rfl rfl rfl) rfl rfl ?_
 refine XR_a (op_gtr rfl rfl) rfl rfl ?_
 refine XR_nil ?_
 refine X_if rfl (fun h => ?_) (fun h => ?_)
 ·refine X_seq (X_reg (XA rfl rfl rfl (XA rfl rfl rfl (XR_nil ?_))))
  refine X_ret (.cons (.tmp rfl) (.cons (.tmp rfl) .nil)) ?_
  have hno : ¬ rightL ts := fun hh => by have := hh.1; omega
  rw [decide_eq_false hno]
  exact ⟨_, rfl, fun hh => absurd hh hno, fun _ => st⟩
 ·refine X_skip (X_seq (X_reg (XA rfl rfl rfl (XR_nil (X_seq (X_reg (XA rfl rfl rfl (XR_nil (X_seq ?_)))))))))
  refine X_label ?_
  refine X_seq (X_seq (X_reg (XV rfl rfl rfl ?_)))
  refine XR_a (op_len rfl rfl rfl) rfl rfl ?_
  refine XV rfl rfl rfl (XR_nil (X_block ?_))
  have st := st0.nilrow 94 7
  refine X_loop (fun s => n - s.1) (fun s => [(4, s.2), (5, .bool true), (12, .slice A n c), (13, nV n), (14, nV s.1)])
   (fun (s : Nat × Value) hp => s.1 ≤ n ∧ (∀ t ∈ ts.take s.1, t.right) ∧ St B h0 hp (row 94 7 s.2 (((ts.take s.1).map splitY).flatMap syV) :: F))
   (0, _) (.cons rfl (.cons rfl (.cons rfl (.cons rfl (.cons rfl (.nil _)))))) ⟨Nat.zero_le _, by simp, st⟩ ?_
  clear st
  rintro ⟨i, v⟩ hp ⟨hi, hri, st⟩
  simp only at hi hri st ⊢
  refine X_seq (X_reg ?_)
  refine XR_a (op_lss rfl rfl) rfl rfl ?_
  refine XR_nil (X_seq ?_)
  refine X_if rfl (fun h => ?_) (fun h => ?_)
  ·have hil : i < ts.length := by omega
   obtain ⟨t, ht⟩ : ∃ t, ts[i] = t := ⟨_, rfl⟩
   have htm : t ∈ ts := ht ▸ List.getElem_mem hil
   obtain ⟨g1, o1, rfl, hc1⟩ := Rd.flat tokV 3 (hrB hp st.low) (fun _ => rfl) (by omega) (by omega)
   have hcx := hc1 i hil
   rw [ht] at hcx
   obtain ⟨A4, n4, c4, rfl, hl4, _⟩ := st.row 0 rfl
   rw [flat_length _ 7 (fun _ => rfl), List.length_map, List.length_take] at hl4
   have htk : ts.take (i + 1) = ts.take i ++ [t] := by rw [List.take_succ_eq_append_getElem hil, ht]
   refine X_skip (X_seq (X_block (X_seq (X_reg ?_))))
   refine XR_a (op_index (i := i) rfl rfl rfl (by omega)) rfl rfl ?_
   refine XR_a (op_ldA (vs := tokV t) hcx rfl rfl rfl rfl) rfl rfl ?_
   refine XR_wa (opl_new rfl) rfl rfl rfl ?_
   rintro _ hp1 ⟨p7, rfl, hnew⟩
   replace st := st.new hnew
   refine XR_wn (opl_store_whole (us := tokV t) st 0 rfl rfl rfl rfl rfl (tokV_one _) rfl) rfl rfl fun _ hp st => ?_
   simp only [List.set_cons_zero, List.set_cons_succ] at st
   refine XR_nil (X_seq (X_reg ?_))
   refine XR_wa (opl_new rfl) rfl rfl rfl ?_
   rintro _ hp2 ⟨p8, rfl, hnew⟩
   replace st := st.new hnew
   refine XR_nil (X_seq (X_seq (X_reg ?_)))
   refine XR_a (op_ldA (vs := tokV t) (st.cells 1 rfl) rfl rfl rfl rfl) rfl rfl ?_
   refine XR_wa (opl_call (ssplit_spec (hby t htm) _) rfl (by kernel_rfl)) rfl rfl rfl ?_
   rintro _ hp4 ⟨rfl, hx4⟩
   replace st := st.ext hx4
   refine XV rfl rfl rfl ?_
   by_cases hrt : t.right
   ·rw [splitT_yes hrt]
    refine XR_a (op_extract rfl rfl) rfl rfl (XR_a (op_extract rfl rfl) rfl rfl ?_)
    refine XR_wn (opl_store_whole (us := syV (splitY t)) st 0 rfl rfl rfl rfl rfl (syV_one _) rfl) rfl rfl fun _ hp st => ?_
    simp only [List.set_cons_zero, List.set_cons_succ] at st
    refine XA rfl rfl rfl (XR_nil (X_seq (X_reg (XV rfl rfl rfl ?_))))
    first | refine XR_a (op_notd rfl) rfl rfl ?_ | refine XR_a (op_not rfl) rfl rfl ?_
    refine XR_as (.bool false) rfl ?_
    refine XR_nil (X_else rfl (X_skip (X_reg (XV rfl rfl rfl ?_))))
    refine XR_a (op_ldA (vs := syV (splitY t)) (st.cells 0 rfl) rfl rfl rfl rfl) rfl rfl ?_
    refine XR_wa (opl_varA (us := syV (splitY t)) rfl rfl rfl rfl (by kernel_rfl)) rfl rfl rfl ?_
    rintro _ hp ⟨A8, rfl, hx9, hrd⟩
    replace st := st.ext hx9
    refine XR_wa (opl_append st 2 rfl (hrd) (rfl) (syV_one _) (by rw [flat_length _ 7 (fun _ => rfl)]; simp; omega) rfl rfl rfl rfl rfl rfl rfl) rfl rfl rfl fun v hp st => ?_
    simp only [List.set_cons_zero, List.set_cons_succ] at st
    have e2 : ((ts.take i).map splitY).flatMap syV ++ syV (splitY t) = ((ts.take (i + 1)).map splitY).flatMap syV := by rw [htk, List.map_append, List.flatMap_append]; simp
    rw [e2] at st
    refine XA rfl rfl rfl (XR_nil (X_blk (X_reg ?_)))
    first | refine XR_a (op_addN (n := 1) rfl rfl (by simp only [inK]; omega)) rfl rfl ?_ | refine XR_a (op_addI rfl rfl (by simp only [inK]; omega)) rfl rfl ?_ | refine XR_a (op_add rfl rfl) rfl rfl ?_
    refine XV rfl rfl rfl (XR_nil ?_)
    exact X_again (i + 1, _) (.cons rfl (.cons rfl (.cons rfl (.cons rfl (.cons rfl (.nil _)))))) ⟨by simp only; omega, fun x hx => by simp only [htk] at hx; rcases List.mem_append.1 hx with hx | hx; exact hri x hx; rw [List.mem_singleton] at hx; rw [hx]; exact hrt, st.tail.tail⟩ (by simp only; omega)
   ·rw [splitT_no hrt]
    refine XR_a (op_extract rfl rfl) rfl rfl (XR_a (op_extract rfl rfl) rfl rfl ?_)
    refine XR_wn (opl_store_whole (us := syV Sy.nil) st 0 rfl rfl rfl rfl rfl (syV_one _) rfl) rfl rfl fun _ hp st => ?_
    simp only [List.set_cons_zero, List.set_cons_succ] at st
    refine XA rfl rfl rfl (XR_nil (X_seq (X_reg (XV rfl rfl rfl ?_))))
    first | refine XR_a (op_notd rfl) rfl rfl ?_ | refine XR_a (op_not rfl) rfl rfl ?_
    refine XR_as (.bool true) rfl ?_
    refine XR_nil (X_then rfl (X_exit rfl (X_seq (X_reg (XV rfl rfl rfl (XV rfl rfl rfl (XA rfl rfl rfl (XA rfl rfl rfl (XR_nil ?_)))))))))
    refine X_ret (.cons (.tmp rfl) (.cons (.tmp rfl) .nil)) ?_
    have hno : ¬ rightL ts := fun hh => hrt (hh.2 t htm)
    rw [decide_eq_false hno]
    exact ⟨_, rfl, fun hh => absurd hh hno, fun _ => st.tail.tail.tail⟩
  ·refine X_exit rfl (X_seq (X_reg (XV rfl rfl rfl (XV rfl rfl rfl (XA rfl rfl rfl (XA rfl rfl rfl (XR_nil ?_)))))))
   refine X_ret (.cons (.tmp rfl) (.cons (.tmp rfl) .nil)) ?_
   obtain rfl : i = n := by omega
   rw [List.take_of_length_le (by omega)] at hri st
   have hyes : rightL ts := ⟨by omega, hri⟩
   rw [decide_eq_true hyes]
   exact ⟨_, rfl, fun _ => st, fun hh => absurd hyes hh⟩
theorem bweigh1_spec {B n c : Nat} {A : Option Addr} {ys : List Sy} {F : List Res} {h0 : Heap} (st0 : St B h0 h0 F) (hrB : ∀ h', Low B h0 h' → Rd h' A (ys.flatMap syV)) (hl : ys.length = n) (hn : n ≤ 65536) (hok : ∀ y ∈ ys, 0 ≤ y.a.num ∧ y.a.num < 273 ∧ 0 ≤ y.b.num ∧ y.b.num < 30) :
  Ret Tryz.prog 42 [.slice A n c] h0 fun v h' => ∃ w1 w2, v = retVal [w1, w2] ∧ St B h0 h' (row 3 1 w1 ((firstW ys).map nV) :: row 3 1 w2 ((secondW ys).map nV) :: F) := by
 refine ret_of_X Tryz.func42 rfl rfl fun w0 hw0 => ?_
 simp only [argE, Nat.zero_add, Nat.reduceAdd]
 have st := st0
 refine X_seq (X_reg (XA rfl rfl rfl (XA rfl rfl rfl (XR_nil (X_seq ?_)))))
 refine X_draw_two byKind [] 0 [2, 1, 3] 1 [0, 2, 3] (by kernel_rfl) (by kernel_rfl) rfl rfl rfl ?_
 refine XR_nil ?_
 refine X_alt (σ := Value × Value) (fun s => [(0, .slice A n c), (2, s.1), (3, s.2)]) (fun s hp => St B h0 hp (row 3 1 s.1 (List.replicate 273 (iV 0)) :: row 3 1 s.2 (List.replicate 30 (iV 0)) :: F)) ?_ ?_ ?_
 ·refine XR_ga (opl_mk (by decide) rfl rfl rfl) rfl rfl rfl (fun _ _ e => e.1) ?_
  rintro v hp hnew
  have st := st.new hnew
  refine XA rfl rfl rfl ?_
  refine XR_ga (opl_mk (by decide) rfl rfl rfl) rfl rfl rfl (fun _ _ e => e.1) ?_
  rintro v hp hnew
  have st := st.new hnew
  refine XA rfl rfl rfl (XR_nil ?_)
  exact X_meet (_, _) (.cons rfl (.cons rfl (.cons rfl (.nil _)))) (St.reF [_, _] 2 st [1, 0] (by decide))
 ·refine XR_ga (opl_mk (by decide) rfl rfl rfl) rfl rfl rfl (fun _ _ e => e.1) ?_
  rintro v hp hnew
  have st := st.new hnew
  refine XR_ga (opl_mk (by decide) rfl rfl rfl) rfl rfl rfl (fun _ _ e => e.1) ?_
  rintro v hp hnew
  have st := st.new hnew
  refine XA rfl rfl rfl (XA rfl rfl rfl (XR_nil ?_))
  exact X_meet (_, _) (.cons rfl (.cons rfl (.cons rfl (.nil _)))) st
 rintro ⟨v1, v2⟩ hp st
 simp only at st ⊢
 obtain ⟨ga, na, ca, rfl, hla, _⟩ := st.row0 0 rfl (by rw [List.length_replicate]; omega)
 obtain ⟨gb, nb, cb, rfl, hlb, _⟩ := st.row0 1 rfl (by rw [List.length_replicate]; omega)
 obtain rfl : na = 273 := by rw [List.length_replicate] at hla; omega
 obtain rfl : nb = 30 := by rw [List.length_replicate] at hlb; omega
 refine X_seq (X_reg (XV rfl rfl rfl ?_))
 refine XR_a (op_index1 (i := 256) rfl rfl rfl (by omega)) rfl rfl ?_
 refine XR_wn (opl_store_row (o := 0) (i := 256) (v := nV 1) st 0 rfl (congrArg (fun x => some (Value.pointer (some ⟨ga, x, none⟩))) (by omega)) rfl (by simp) rfl rfl) rfl rfl fun _ hp st => ?_
 simp only [List.set_cons_zero, List.set_cons_succ] at st
 rw [show (List.replicate 273 (iV 0)).set 256 (nV 1) = (foldW (ys.take 0)).1.map nV by show _ = ((List.replicate 273 0).set 256 1).map nV; rw [List.map_set, List.map_replicate]; rfl, show List.replicate 30 (iV 0) = (foldW (ys.take 0)).2.1.map nV by show _ = (List.replicate 30 0).map nV; rw [List.map_replicate]; rfl] at st
 refine XR_nil (X_seq (X_reg (XA rfl rfl rfl (XR_nil (X_seq (X_seq (X_reg (XV rfl rfl rfl ?_))))))))
 refine XR_a (op_len rfl rfl rfl) rfl rfl ?_
 refine XV rfl rfl rfl (XR_nil (X_block ?_))
 refine X_loop (fun i => n - i) (fun i => [(2, .slice (some ⟨ga, 0, none⟩) 273 ca), (3, .slice (some ⟨gb, 0, none⟩) 30 cb), (4, nV (foldW (ys.take i)).2.2), (11, .slice A n c), (12, nV n), (13, nV i)])
  (fun (i : Nat) hp => i ≤ n ∧ St B h0 hp (row 3 1 (.slice (some ⟨ga, 0, none⟩) 273 ca) ((foldW (ys.take i)).1.map nV) :: row 3 1 (.slice (some ⟨gb, 0, none⟩) 30 cb) ((foldW (ys.take i)).2.1.map nV) :: F))
  0 (.cons rfl (.cons rfl (.cons rfl (.cons rfl (.cons rfl (.cons rfl (.nil _))))))) ⟨Nat.zero_le _, st⟩ ?_
 clear st
 rintro i hp ⟨hi, st⟩
 obtain ⟨W, hW⟩ : ∃ W, foldW (ys.take i) = W := ⟨_, rfl⟩
 have hWk := foldW_ok (ys.take i)
 rw [hW] at st hWk ⊢
 obtain ⟨k1, k2, k3, k4, k5⟩ := hWk
 rw [List.length_take] at k3 k4 k5
 refine X_seq (X_reg ?_)
 refine XR_a (op_lss rfl rfl) rfl rfl ?_
 refine XR_nil (X_seq ?_)
 refine X_if rfl (fun h => ?_) (fun h => ?_)
 ·have hil : i < ys.length := by omega
  obtain ⟨y, hy⟩ : ∃ y, ys[i] = y := ⟨_, rfl⟩
  have hyo := hok y (hy ▸ List.getElem_mem hil)
  obtain ⟨gy, oy, rfl, hcy⟩ := Rd.flat syV 7 (hrB hp st.low) (fun _ => rfl) (by omega) (by omega)
  have hcx := hcy i hil
  rw [hy] at hcx
  have hsn : foldW (ys.take (i + 1)) = stepW W y := by rw [List.take_succ_eq_append_getElem hil, hy, foldW_snoc, hW]
  obtain ⟨ya, hya⟩ : ∃ a : Nat, y.a.num = a := ⟨y.a.num.toNat, by omega⟩
  obtain ⟨yb, hyb⟩ : ∃ a : Nat, y.b.num = a := ⟨y.b.num.toNat, by omega⟩
  have hga : W.1[ya]? = some (W.1.getD ya 0) := by rw [List.getD_eq_getElem?_getD, List.getElem?_eq_getElem (by omega)]; rfl
  have hgb : W.2.1[yb]? = some (W.2.1.getD yb 0) := by rw [List.getD_eq_getElem?_getD, List.getElem?_eq_getElem (by omega)]; rfl
  have hma := le_sum (List.mem_of_getElem? hga)
  have hmb := le_sum (List.mem_of_getElem? hgb)
  refine X_skip (X_seq (X_block (X_seq (X_reg ?_))))
  refine XR_a (op_index (i := i) rfl rfl rfl (by omega)) rfl rfl ?_
  refine XR_a (op_ldA (vs := syV y) hcx rfl rfl rfl rfl) rfl rfl ?_
  refine XR_wa (opl_new rfl) rfl rfl rfl ?_
  rintro _ hp1 ⟨p6, rfl, hnew⟩
  replace st := st.new hnew
  refine XR_wn (opl_store_whole (us := syV y) st 0 rfl rfl rfl rfl rfl (syV_one _) rfl) rfl rfl fun _ hp st => ?_
  simp only [List.set_cons_zero, List.set_cons_succ] at st
  obtain ⟨_, _, he1, hc1⟩ := (st.rdS 1 rfl).2.at_ (by rw [List.length_map]; omega)
  cases he1
  have hov := hc1 ya (nV (W.1.getD ya 0)) (by rw [List.getElem?_map, hga]; rfl)
  refine XR_nil (X_seq (X_reg (XV rfl rfl rfl ?_)))
  first | refine XR_a (op_field0 rfl rfl) rfl rfl ?_ | refine XR_a (op_fieldn rfl rfl) rfl rfl ?_
  first | refine XR_a (op_field0 rfl rfl) rfl rfl ?_ | refine XR_a (op_fieldn rfl rfl) rfl rfl ?_
  refine XR_a (op_ld (st.cell 0 (i := 0) rfl rfl) rfl rfl rfl) rfl rfl ?_
  refine XR_as (nV ya) (congrArg (Value.int .i64) hya) ?_
  refine XR_a (op_index1 (i := ya) rfl rfl rfl (by omega)) rfl rfl ?_
  refine XR_a (op_ld (hov) rfl rfl rfl) rfl rfl ?_
  first | refine XR_a (op_addN (n := 1) rfl rfl (by simp only [inK]; omega)) rfl rfl ?_ | refine XR_a (op_addI rfl rfl (by simp only [inK]; omega)) rfl rfl ?_ | refine XR_a (op_add rfl rfl) rfl rfl ?_
  refine XR_a (op_index1 (i := ya) rfl rfl rfl (by omega)) rfl rfl ?_
  refine XR_wn (opl_store_row (o := 0) (i := ya) (v := nV (W.1.getD ya 0 + 1)) st 1 rfl (congrArg (fun x => some (Value.pointer (some ⟨ga, x, none⟩))) (by omega)) rfl (by simp; omega) rfl rfl) rfl rfl fun _ hp st => ?_
  simp only [List.set_cons_zero, List.set_cons_succ] at st
  rw [map_set_nV] at st
  refine XR_nil (X_seq (X_reg ?_))
  first | refine XR_a (op_field0 rfl rfl) rfl rfl ?_ | refine XR_a (op_fieldn rfl rfl) rfl rfl ?_
  refine XR_a (op_ld (st.cell 0 (i := 6) rfl rfl) rfl rfl rfl) rfl rfl ?_
  refine XR_as (.bool (decide (y.m = true))) (congrArg Value.bool (by cases y.m <;> rfl)) ?_
  refine XR_nil ?_
  refine X_if rfl (fun h => ?_) (fun h => ?_)
  ·have hs2 : foldW (ys.take (i + 1)) = (W.1.set ya (W.1.getD ya 0 + 1), W.2.1.set yb (W.2.1.getD yb 0 + 1), W.2.2 + 1) := by
    rw [hsn]; simp only [stepW, addAt, hya, hyb, Int.toNat_natCast]; rw [if_pos h, if_pos h]
   obtain ⟨_, _, he2, hc2⟩ := (st.rdS 2 rfl).2.at_ (by rw [List.length_map]; omega)
   cases he2
   have hov2 := hc2 yb (nV (W.2.1.getD yb 0)) (by rw [List.getElem?_map, hgb]; rfl)
   refine X_seq (X_reg (XV rfl rfl rfl ?_))
   first | refine XR_a (op_addN (n := 1) rfl rfl (by simp only [inK]; omega)) rfl rfl ?_ | refine XR_a (op_addI rfl rfl (by simp only [inK]; omega)) rfl rfl ?_ | refine XR_a (op_add rfl rfl) rfl rfl ?_
   refine XA rfl rfl rfl (XR_nil (X_reg (XV rfl rfl rfl ?_)))
   first | refine XR_a (op_field0 rfl rfl) rfl rfl ?_ | refine XR_a (op_fieldn rfl rfl) rfl rfl ?_
   first | refine XR_a (op_field0 rfl rfl) rfl rfl ?_ | refine XR_a (op_fieldn rfl rfl) rfl rfl ?_
   refine XR_a (op_ld (st.cell 0 (i := 3) rfl rfl) rfl rfl rfl) rfl rfl ?_
   refine XR_as (nV yb) (congrArg (Value.int .i64) hyb) ?_
   refine XR_a (op_index1 (i := yb) rfl rfl rfl (by omega)) rfl rfl ?_
   refine XR_a (op_ld (hov2) rfl rfl rfl) rfl rfl ?_
   first | refine XR_a (op_addN (n := 1) rfl rfl (by simp only [inK]; omega)) rfl rfl ?_ | refine XR_a (op_addI rfl rfl (by simp only [inK]; omega)) rfl rfl ?_ | refine XR_a (op_add rfl rfl) rfl rfl ?_
   refine XR_a (op_index1 (i := yb) rfl rfl rfl (by omega)) rfl rfl ?_
   refine XR_wn (opl_store_row (o := 0) (i := yb) (v := nV (W.2.1.getD yb 0 + 1)) st 2 rfl (congrArg (fun x => some (Value.pointer (some ⟨gb, x, none⟩))) (by omega)) rfl (by simp; omega) rfl rfl) rfl rfl fun _ hp st => ?_
   simp only [List.set_cons_zero, List.set_cons_succ] at st
   rw [map_set_nV] at st
   refine XR_nil (X_blk (X_reg ?_))
   first | refine XR_a (op_addN (n := 1) rfl rfl (by simp only [inK]; omega)) rfl rfl ?_ | refine XR_a (op_addI rfl rfl (by simp only [inK]; omega)) rfl rfl ?_ | refine XR_a (op_add rfl rfl) rfl rfl ?_
   refine XV rfl rfl rfl (XR_nil ?_)
   exact X_again (i + 1) (.cons rfl (.cons rfl (.cons (by rw [hs2]; rfl) (.cons rfl (.cons rfl (.cons rfl (.nil _))))))) ⟨by omega, by rw [hs2]; exact st.tail⟩ (by omega)
  ·have hs2 : foldW (ys.take (i + 1)) = (W.1.set ya (W.1.getD ya 0 + 1), W.2.1, W.2.2) := by
    rw [hsn]; simp only [stepW, addAt, hya, Int.toNat_natCast]; rw [if_neg h, if_neg h]
   refine X_skip (X_blk (X_reg ?_))
   first | refine XR_a (op_addN (n := 1) rfl rfl (by simp only [inK]; omega)) rfl rfl ?_ | refine XR_a (op_addI rfl rfl (by simp only [inK]; omega)) rfl rfl ?_ | refine XR_a (op_add rfl rfl) rfl rfl ?_
   refine XV rfl rfl rfl (XR_nil ?_)
   exact X_again (i + 1) (.cons rfl (.cons rfl (.cons (by rw [hs2]; rfl) (.cons rfl (.cons rfl (.cons rfl (.nil _))))))) ⟨by omega, by rw [hs2]; exact st.tail⟩ (by omega)
 ·rw [List.take_of_length_le (by omega)] at hW
  refine X_exit rfl (X_seq (X_seq (X_reg (XV rfl rfl rfl ?_))))
  refine XR_a (op_eql rfl rfl) rfl rfl ?_
  refine XR_nil ?_
  refine X_if rfl (fun h => ?_) (fun h => ?_)
  ·have hs : secondW ys = W.2.1.set 0 1 := by unfold secondW; rw [hW, if_pos (by omega)]
   refine X_reg (XV rfl rfl rfl ?_)
   refine XR_a (op_index1 (i := 0) rfl rfl rfl (by omega)) rfl rfl ?_
   refine XR_wn (opl_store_row (o := 0) (i := 0) (v := nV 1) st 1 rfl (congrArg (fun x => some (Value.pointer (some ⟨gb, x, none⟩))) (by omega)) rfl (by simp; omega) rfl rfl) rfl rfl fun _ hp st => ?_
   simp only [List.set_cons_zero, List.set_cons_succ] at st
   rw [map_set_nV] at st
   refine XR_nil (X_seq (X_reg (XV rfl rfl rfl (XV rfl rfl rfl (XA rfl rfl rfl (XA rfl rfl rfl (XR_nil ?_)))))))
   refine X_ret (.cons (.tmp rfl) (.cons (.tmp rfl) .nil)) ?_
   exact ⟨_, _, rfl, by rw [hs, show firstW ys = W.1 from congrArg (·.1) hW]; exact st⟩
  ·have hs : secondW ys = W.2.1 := by unfold secondW; rw [hW, if_neg (by omega)]
   refine X_skip (X_seq (X_reg (XV rfl rfl rfl (XV rfl rfl rfl (XA rfl rfl rfl (XA rfl rfl rfl (XR_nil ?_)))))))
   refine X_ret (.cons (.tmp rfl) (.cons (.tmp rfl) .nil)) ?_
   exact ⟨_, _, rfl, by rw [hs, show firstW ys = W.1 from congrArg (·.1) hW]; exact st⟩
end Go.Bn
end

section
set_option linter.unusedVariables false
set_option linter.unusedSimpArgs false
set_option maxHeartbeats 4000000
set_option maxRecDepth 20000
namespace Go.Bn
open Go Proofs
noncomputable def outAt (ws L : List Nat) : List Nat := (List.range ws.length).map fun s => lvl L ((syms ws).idxOf s)
noncomputable def outIn (ws L : List Nat) (k : Nat) : List Nat := (List.range ws.length).map fun s => lvl L ((syms ws).idxOf s) + if (syms ws).idxOf s < k then 1 else 0
theorem outAt_nil (ws : List Nat) : outAt ws [] = List.replicate ws.length 0 := by
 refine List.ext_getElem (by simp [outAt]) fun i h1 h2 => ?_
 simp [outAt, lvl]
theorem outAt_len (ws L : List Nat) : (outAt ws L).length = ws.length := by simp [outAt]
theorem outIn_zero (ws L : List Nat) : outIn ws L 0 = outAt ws L := by
 unfold outIn outAt
 refine List.map_congr_left fun s _ => ?_
 rw [if_neg (by omega), Nat.add_zero]
theorem lvl_snoc (L : List Nat) (k i : Nat) : lvl (L ++ [k]) i = lvl L i + if i < k then 1 else 0 := by
 unfold lvl
 rw [List.countP_append, List.countP_singleton]; simp
theorem outIn_done (ws L : List Nat) (k : Nat) : outIn ws L k = outAt ws (L ++ [k]) := by
 unfold outIn outAt
 exact List.map_congr_left fun s _ => (lvl_snoc L k _).symm
theorem outIn_len (ws L : List Nat) (k : Nat) : (outIn ws L k).length = ws.length := by simp [outIn]
theorem outIn_get {ws L : List Nat} {k s : Nat} (hs : s < ws.length) : (outIn ws L k)[s]? = some (lvl L ((syms ws).idxOf s) + if (syms ws).idxOf s < k then 1 else 0) := by
 unfold outIn; simp [hs]
theorem outIn_set {ws L : List Nat} {k : Nat} (hk : k < (syms ws).length) : (outIn ws L k).set ((syms ws).getD k 0) (lvl L k + 1) = outIn ws L (k + 1) := by
 refine List.ext_getElem (by simp [outIn]) fun i h1 h2 => ?_
 have hi : i < ws.length := by simpa [outIn] using h2
 rw [List.getElem_set]
 have hx := idxOf_getD hk
 by_cases h : (syms ws).getD k 0 = i
 ·rw [if_pos h]
  simp only [outIn, List.getElem_map, List.getElem_range]
  rw [← h, hx, if_pos (by omega)]
 ·rw [if_neg h]
  simp only [outIn, List.getElem_map, List.getElem_range]
  congr 1
  have hne : (syms ws).idxOf i ≠ k := fun he => by
   have hl : (syms ws).idxOf i < (syms ws).length := by omega
   have := List.getElem_idxOf hl
   refine h ?_
   rw [getD_eq hk, ← this]
   simp only [he]
  by_cases h3 : (syms ws).idxOf i < k
  ·rw [if_pos h3, if_pos (by omega)]
  ·rw [if_neg h3, if_neg (by omega)]
theorem outAt_levW (ws : List Nat) : outAt ws (levW ws) = lensW ws := rfl
theorem lensW_zero {ws : List Nat} (h : (syms ws).length = 0) : lensW ws = List.replicate ws.length 0 := by
 rw [← outAt_nil, ← outAt_levW]
 unfold levW; rw [h]; rfl
theorem lensW_single {ws : List Nat} (h : (syms ws).length = 1) : (List.replicate ws.length 0).set ((syms ws).getD 0 0) 1 = lensW ws := by
 rw [← outAt_nil, ← outIn_zero, ← outAt_levW]
 have e := outIn_set (L := []) (show 0 < (syms ws).length by omega)
 rw [show lvl [] 0 + 1 = 1 from rfl] at e
 rw [e, outIn_done]
 unfold levW; rw [h]; rfl
def errW (li : List Int) : Int := if 320 < li.length then 5 else if boundedB 1073741824 li then 0 else 1
noncomputable def lensI (li : List Int) : List Nat := if errW li = 0 then lensW (li.map Int.toNat) else []
theorem errW_zero {li : List Int} : errW li = 0 ↔ boundedB 1073741824 li := by
 unfold errW
 split
 ·rename_i h; exact ⟨fun hh => by omega, fun hh => by have := hh.1; omega⟩
 ·split <;> simp [*]
theorem lengths_spec {n c : Nat} {A : Option Addr} {li : List Int} {h0 : Heap} (hr : Rd h0 A (li.map iV)) (hl : li.length = n) (hn : n ≤ 17592186044416) :
  Ret Tryz.prog 78 [.slice A n c] h0 fun v h' => ∃ v1, v = retVal [v1, .int .i64 (errW li)] ∧ St h0.size h0 h' [row 3 1 v1 ((lensI li).map nV)] := by
 refine ret_of_X Tryz.func78 rfl rfl fun w0 hw0 => ?_
 simp only [argE, Nat.zero_add, Nat.reduceAdd]
 refine X_seq (X_reg (XA rfl rfl rfl (XA rfl rfl rfl (XR_nil (X_seq (X_block (X_seq (X_reg (XV rfl rfl rfl ?_)))))))))
 refine XR_a (op_len rfl rfl rfl) rfl rfl ?_
 refine XR_a (op_gtr rfl rfl) rfl rfl ?_
 refine XA rfl rfl rfl (XR_nil ?_)
 refine X_if rfl (fun h => ?_) (fun h => ?_)
 ·refine X_seq (X_reg (XA rfl rfl rfl (XA rfl rfl rfl (XR_nil ?_))))
  refine X_ret (.cons (.tmp rfl) (.cons (.tmp rfl) .nil)) ?_
  have he : errW li = 5 := by unfold errW; rw [if_pos (by omega)]
  refine ⟨_, by rw [he], ?_⟩
  unfold lensI
  rw [he, if_neg (by omega)]
  exact ((St.start h0).nilrow 3 1)
 ·refine X_seq (X_reg (XV rfl rfl rfl ?_))
  refine XR_wa (opl_call (wright_spec 1073741824 hr hl hn) rfl (by kernel_rfl)) rfl rfl rfl ?_
  rintro _ hp ⟨rfl, hx⟩
  first | refine XR_a (op_notd rfl) rfl rfl ?_ | refine XR_a (op_not rfl) rfl rfl ?_
  refine XA rfl rfl rfl (XR_nil ?_)
  refine X_if rfl (fun h => ?_) (fun h => ?_)
  ·refine X_seq (X_reg (XA rfl rfl rfl (XA rfl rfl rfl (XR_nil ?_))))
   refine X_ret (.cons (.tmp rfl) (.cons (.tmp rfl) .nil)) ?_
   have he : errW li = 1 := by unfold errW; rw [if_neg (by omega), if_neg h]
   refine ⟨_, by rw [he], ?_⟩
   unfold lensI
   rw [he, if_neg (by omega)]
   exact (((St.start h0).ext hx).nilrow 3 1)
  ·have hR : boundedB 1073741824 li := Decidable.not_not.1 h
   have he0 := errW_zero.2 hR
   have hlens : lensI li = lensW (li.map Int.toNat) := by unfold lensI; rw [if_pos he0]
   rw [hlens, he0]
   have hr2 : Rd h0 A ((li.map Int.toNat).map nV) := by rw [nV_iV, toNat_map fun x hx => (hR.2 x hx).1]; exact hr
   have hwb : ∀ s, wkey (li.map Int.toNat) s ≤ 1073741824 := fun s => by
    unfold wkey
    rcases Nat.lt_or_ge s li.length with h1 | h1
    ·have := (hR.2 li[s] (List.getElem_mem h1)).2
     simp [List.getD, h1]; omega
    ·simp [List.getD, h1]
   have hn320 := hR.1
   have hlw : (li.map Int.toNat).length = n := by rw [List.length_map]; exact hl
   obtain ⟨ws, hws⟩ : ∃ ws, li.map Int.toNat = ws := ⟨_, rfl⟩
   rw [hws] at hr2 hlw hwb ⊢
   have st := (St.start h0).ext hx
   have hsl := syms_len ws
   refine X_skip (X_blk (X_seq (X_reg (XV rfl rfl rfl ?_))))
   refine XR_a (op_len rfl rfl rfl) rfl rfl ?_
   refine XR_wa (opl_mk (by omega) rfl rfl rfl) rfl rfl rfl ?_
   rintro v hp hnew
   have st := st.new hnew
   obtain ⟨Ao, no, co, rfl, _, _, _, _⟩ := st.row 0 rfl
   refine XR_wa (opl_new rfl) rfl rfl rfl ?_
   rintro _ hp ⟨p4, rfl, hnew⟩
   replace st := st.new hnew
   refine XR_wn (opl_store_pt st 0 rfl rfl rfl rfl rfl (rfl)) rfl rfl fun _ hp st => ?_
   simp only [List.set_cons_zero, List.set_cons_succ] at st
   refine XR_nil (X_seq (X_reg (XV rfl rfl rfl ?_)))
   refine XR_wa (opl_call (items_spec (hr2.ext st.low) hlw (by omega)) rfl (by kernel_rfl)) rfl rfl rfl ?_
   rintro v2 hp2 st2
   obtain ⟨As, ns, cs, rfl, hls, _, _, _⟩ := st2.row 0 rfl
   replace st := st.join st2
   simp only [List.cons_append, List.nil_append] at st
   rw [List.length_map, Nat.mul_one] at hls
   have hrow := (st.rdS 2 rfl).1
   rw [List.length_replicate] at hrow
   have hno : no = n := by omega
   rw [hno] at st
   rw [show List.replicate n (Value.int .i64 0) = (outAt ws []).map nV by rw [outAt_nil, List.map_replicate, hlw]; rfl] at st
   refine XR_wa (opl_new rfl) rfl rfl rfl ?_
   rintro _ hp ⟨p5, rfl, hnew⟩
   replace st := st.new hnew
   refine XR_wn (opl_store_pt st 0 rfl rfl rfl rfl rfl (rfl)) rfl rfl fun _ hp st => ?_
   simp only [List.set_cons_zero, List.set_cons_succ] at st
   refine XR_nil (X_seq (X_seq (X_reg ?_)))
   refine XR_a (op_ld (st.cell 0 (i := 0) rfl rfl) rfl rfl rfl) rfl rfl ?_
   refine XR_a (op_len rfl rfl rfl) rfl rfl ?_
   refine XR_a (op_eql rfl rfl) rfl rfl ?_
   refine XR_nil ?_
   refine X_if rfl (fun h => ?_) (fun h => ?_)
   ·have h3 : (syms ws).length = 1 := by omega
    obtain ⟨g5, o5, rfl, hc5⟩ := (st.rdS 1 rfl).2.at_ (by rw [List.length_map]; omega)
    have hs0 := hc5 0 (nV ((syms ws).getD 0 0)) (by rw [List.getElem?_map, List.getElem?_eq_getElem (by omega), getD_eq (by omega)]; rfl)
    have hsn := (mem_syms.1 (getD_mem (l := syms ws) (i := 0) (by omega))).1
    obtain ⟨go, no', co', heo, _⟩ := st.row0 3 rfl (by rw [List.length_map, outAt_len]; omega)
    cases heo
    refine X_draw byKind (by kernel_rfl) (by kernel_rfl) ?_
    refine XR_a (op_ld (st.cell 2 (i := 0) rfl rfl) rfl rfl rfl) rfl rfl ?_
    refine XR_a (op_ld (st.cell 0 (i := 0) rfl rfl) rfl rfl rfl) rfl rfl ?_
    refine XR_a (op_index1 (i := 0) rfl rfl rfl (by omega)) rfl rfl ?_
    refine XR_a (op_ld (hs0) rfl rfl rfl) rfl rfl ?_
    first | refine XR_a (op_index1 rfl rfl rfl (by omega)) rfl rfl ?_ | refine XR_a (op_index rfl rfl rfl (by omega)) rfl rfl ?_
    refine XR_wn (opl_store_row (v := nV 1) st 3 rfl rfl rfl (by rw [List.length_map, outAt_len]; omega) rfl rfl) rfl rfl fun _ hp st => ?_
    simp only [List.set_cons_zero, List.set_cons_succ] at st
    rw [map_set_nV, outAt_nil, lensW_single h3] at st
    refine XR_nil (X_seq (X_seq (X_reg ?_)))
    refine XR_a (op_ld (st.cell 0 (i := 0) rfl rfl) rfl rfl rfl) rfl rfl ?_
    refine XR_a (op_len rfl rfl rfl) rfl rfl ?_
    refine XR_a (op_lss rfl rfl) rfl rfl ?_
    refine XR_nil ?_
    refine X_if rfl (fun h => ?_) (fun h => ?_)
    ·refine X_seq (X_reg ?_)
     refine XR_a (op_ld (st.cell 2 (i := 0) rfl rfl) rfl rfl rfl) rfl rfl ?_
     refine XA rfl rfl rfl (XA rfl rfl rfl (XR_nil ?_))
     refine X_ret (.cons (.tmp rfl) (.cons (.tmp rfl) .nil)) ?_
     exact ⟨_, rfl, (st.re 4 [3, 0, 1, 2] (by decide)).keep 1⟩
    ·exact absurd h (by omega)
   ·refine X_skip (X_seq (X_seq (X_reg ?_)))
    refine XR_a (op_ld (st.cell 0 (i := 0) rfl rfl) rfl rfl rfl) rfl rfl ?_
    refine XR_a (op_len rfl rfl rfl) rfl rfl ?_
    refine XR_a (op_lss rfl rfl) rfl rfl ?_
    refine XR_nil ?_
    refine X_if rfl (fun h => ?_) (fun h => ?_)
    ·refine X_seq (X_reg ?_)
     refine XR_a (op_ld (st.cell 2 (i := 0) rfl rfl) rfl rfl rfl) rfl rfl ?_
     refine XA rfl rfl rfl (XA rfl rfl rfl (XR_nil ?_))
     refine X_ret (.cons (.tmp rfl) (.cons (.tmp rfl) .nil)) ?_
     rename_i h3 h4
     refine ⟨_, rfl, ?_⟩
     rw [lensW_zero (by omega), ← outAt_nil]
     exact (st.re 4 [3, 0, 1, 2] (by decide)).keep 1
    ·refine X_skip (X_seq ?_)
     have h2n : 2 ≤ (syms ws).length := by omega
     obtain ⟨go, no', co', heo, _⟩ := st.row0 3 rfl (by rw [List.length_map, outAt_len]; omega)
     cases heo
     refine X_reg (XV rfl rfl rfl ?_)
     refine XR_a (op_ld (st.cell 0 (i := 0) rfl rfl) rfl rfl rfl) rfl rfl ?_
     refine XR_wa (opl_call (rows_spec) rfl (by kernel_rfl)) rfl rfl rfl ?_
     rintro _ hp3 ⟨pa, pq, rfl, st3⟩
     replace st := st.join st3
     simp only [List.cons_append, List.nil_append] at st
     have stc := st.re 6 [0, 1, 3, 2, 4, 5] (by decide)
     simp only [List.map_cons, List.map_nil, getR] at stc
     have hbase := stc.low
     refine XR_wa (opl_call (collect_rows (α := List Value × List (Value × List Value)) (Q := fun x => x.1.length = 15 ∧ ∀ j, j < 15 → (x.1.getD j (.slice none 0 0), (rowE (sws ws) (j + 1)).flatMap eC) ∈ x.2) (out := fun x => x.1) (F2 := fun x => rowsR 206 2 x.2 :: Bn.row 3 1 (.slice As ns cs) ((syms ws).map nV) :: _) (lb := [.pointer (some ⟨pa, 0, none⟩), .pointer (some ⟨pq, 0, none⟩)]) stc.here (by kernel_rfl) (fun JR G y h hlow s hround => by refine Ret.mono (rows_iter (ws := ws) (F := [_, _, _] ++ G) JR (s.perm (((List.perm_append_comm_assoc [_, _, _] (JR []) G).cons _).cons _ |>.cons _)) (fun h' hl' => hr2.ext ((hbase.trans hlow).trans hl')) hlw (fun s hs => by have := (mem_syms.1 hs).1; omega) (by omega) (fun s _ => hwb s) hround) ?_; rintro _ h' ⟨vs, L, e1, e2, s2⟩; exact ⟨(vs, L), ⟨e1, e2⟩, s2⟩)) rfl (by kernel_rfl)) rfl rfl rfl ?_
     rintro v6 hp6 ⟨⟨vs, L⟩, ⟨hvs, hvL⟩, st6⟩
     obtain ⟨A6, n6, c6, rfl, hl6, _, _, _⟩ := st6.row 0 rfl
     simp only at st6 hl6 hvs hvL
     obtain rfl : n6 = 15 := by omega
     replace st := stc.trans st6
     refine XA rfl rfl rfl (XR_nil (X_seq (X_reg ?_)))
     refine XR_a (op_ld (st.cell 3 (i := 0) rfl rfl) rfl rfl rfl) rfl rfl ?_
     refine XR_a (op_len rfl rfl rfl) rfl rfl ?_
     first | refine XR_a (op_mulN (m := 2) rfl rfl (by simp only [inK]; omega)) rfl rfl ?_ | refine XR_a (op_mulI rfl rfl (by simp only [inK]; omega)) rfl rfl ?_ | refine XR_a (op_mul rfl rfl) rfl rfl ?_
     refine XR_a (op_subN (m := 2 * ns) (n := 2) rfl rfl (by omega) (by simp only [inK]; omega)) rfl rfl ?_
     refine XR_wa (opl_new rfl) rfl rfl rfl ?_
     rintro _ hp ⟨p7, rfl, hnew⟩
     replace st := st.new hnew
     refine XR_wn (opl_store_pt st 0 rfl rfl rfl rfl rfl (rfl)) rfl rfl fun _ hp st => ?_
     simp only [List.set_cons_zero, List.set_cons_succ] at st
     refine XR_nil (X_seq (X_seq (X_reg (XV rfl rfl rfl ?_))))
     refine XR_wa (opl_call (backward_spec) rfl (by kernel_rfl)) rfl rfl rfl ?_
     rintro _ hp8 ⟨pb, rfl, st8⟩
     replace st := st.join st8
     simp only [List.cons_append, List.nil_append] at st
     refine XR_nil (X_block ?_)
     refine X_rangeS st rfl rfl (by kernel_rfl) fun fn tmps LL y d hp1 hL hok hx1 st1 => ?_
     obtain ⟨JR, hJR⟩ : ∃ JR : Nat → List Res, JR = fun j => [exR fun x : List Nat × Nat => andR (x.1 ++ lev (sws ws) (15 - j) x.2 = levW ws ∧ x.2 ≤ (rowE (sws ws) (15 - j)).length) (starR (pt p7 3 [nV x.2]) (Bn.row 3 1 (.slice (some ⟨go, 0, none⟩) n co) ((outAt ws x.1).map nV))),
      obj y (LL .ready none), rowsR 206 2 L, Bn.row 3 1 (.slice As ns cs) ((syms ws).map nV), pt p5 73 [.slice As ns cs], pt p4 73 [.slice (some ⟨go, 0, none⟩) n co]] := ⟨_, rfl⟩
     have st9 := st1.re 10 [3, 9, 2, 4, 0, 5, 6, 7, 8, 1] (by decide)
     simp only [List.map_cons, List.map_nil, getR] at st9
     have hT : ([] : List Nat) ++ lev (sws ws) (15 - 0) (2 * ns - 2) = levW ws ∧ 2 * ns - 2 ≤ (rowE (sws ws) (15 - 0)).length := by
      rw [← hls]
      exact ⟨(levW_two h2n).symm, rowW_len h2n (by omega)⟩
     have st10 := (St.ex.2 ⟨([], 2 * ns - 2), St.and.2 ⟨hT, St.star.2 st9⟩⟩ : St h0.size h0 hp1 ((exR fun x : List Nat × Nat => andR (x.1 ++ lev (sws ws) (15 - 0) x.2 = levW ws ∧ x.2 ≤ (rowE (sws ws) (15 - 0)).length) (starR (pt p7 3 [nV x.2]) (Bn.row 3 1 (.slice (some ⟨go, 0, none⟩) n co) ((outAt ws x.1).map nV)))) :: _)).re 9 [1, 2, 0, 3, 4, 5, 6, 7, 8] (by decide)
     simp only [List.map_cons, List.map_nil, getR] at st10
     have st11 : St h0.size h0 hp1 (pt pb 196 [.slice A6 15 c6] :: Bn.row 198 1 (.slice A6 15 c6) vs :: (JR 0 ++ [obj d (.deferred (some []))])) := by rw [hJR]; exact st10
     refine Ret.mono (backward_iter JR (by omega) st11.here ?_) ?_
     ·intro j F' h hlow hj st2
      subst hL
      subst hJR
      simp only [List.cons_append, List.nil_append] at st2
      obtain ⟨⟨dn, t⟩, st2⟩ := St.ex.1 st2
      obtain ⟨⟨hlev, ht⟩, st2⟩ := St.and.1 st2
      replace st2 := St.star.1 st2
      simp only at hlev ht st2
      obtain ⟨r, hr15⟩ : ∃ r, 15 - j = r + 1 := ⟨14 - j, by omega⟩
      rw [hr15] at hlev ht
      have hrj : 15 - 1 - j = r := by omega
      rw [hrj]
      have hmem := hvL r (by omega)
      obtain ⟨A9, n9, c9, hv9, hl9, hn9, _, hrd9⟩ := st2.rowsAt 3 rfl hmem
      rw [flat_length _ 2 (fun _ => rfl)] at hl9
      simp only at hv9
      rw [hv9]
      obtain ⟨k1, k2, k3, k4, _⟩ := row_take (sws_asc ws) r t ht
      rw [sws_length] at k2
      have hrb := rowE_bd (sws ws) (r + 1)
      rw [sws_length] at hrb
      refine rret_of_X (st2.obj_at 2 rfl) hok rfl rfl fun w0 hw0 => ?_
      simp only [penv]
      refine X_reg (XA rfl rfl rfl (XR_nil ?_))
      refine X_begin (st2.obj_at 2 rfl) ?_
      have st := st2.loop 2 .busy none rfl
      simp only [List.set_cons_zero, List.set_cons_succ] at st
      refine X_block (X_seq (X_reg (XA rfl rfl rfl (XR_nil (X_seq (X_seq (X_reg (XV rfl rfl rfl ?_))))))))
      refine XR_a (op_ld (st.cell 0 (i := 0) rfl rfl) rfl rfl rfl) rfl rfl ?_
      refine XR_a (op_slice_h rfl rfl rfl (by omega)) rfl rfl ?_
      rw [cutA_zero]
      refine XR_a (op_len rfl rfl rfl) rfl rfl ?_
      refine XV rfl rfl rfl (XR_nil (X_block ?_))
      rw [← outIn_zero] at st
      refine X_loop (fun s => t - s.1) (fun s => [(4, .pointer (some ⟨p4, 0, none⟩)), (5, .pointer (some ⟨p5, 0, none⟩)), (7, .pointer (some ⟨p7, 0, none⟩)), (10, nV s.2), (52, .slice A9 t c9), (53, nV t), (54, nV s.1)])
       (fun (s : Nat × Nat) hp => s.1 ≤ t ∧ s.2 = ((rowE (sws ws) (r + 1)).take s.1).countP isItem ∧ Low h0.size h hp ∧ St h0.size h hp (pt p7 3 [nV t] :: Bn.row 3 1 (.slice (some ⟨go, 0, none⟩) n co) ((outIn ws dn s.2).map nV) :: obj y (loopR fn tmps #[48, 49] _ _ d .busy none) :: rowsR 206 2 L :: Bn.row 3 1 (.slice As ns cs) ((syms ws).map nV) :: pt p5 73 [.slice As ns cs] :: pt p4 73 [.slice (some ⟨go, 0, none⟩) n co] :: F'))
       (0, 0) (.cons rfl (.cons rfl (.cons rfl (.cons rfl (.cons rfl (.cons rfl (.cons rfl (.nil _)))))))) ⟨Nat.zero_le _, by simp, st.low, st⟩ ?_
      clear st
      rintro ⟨i, k⟩ hp9 ⟨hi, hk, hlow9, st⟩
      simp only at hi hk st ⊢
      refine X_seq (X_reg ?_)
      refine XR_a (op_lss rfl rfl) rfl rfl ?_
      refine XR_nil (X_seq ?_)
      refine X_if rfl (fun h => ?_) (fun h => ?_)
      ·have hit : i < (rowE (sws ws) (r + 1)).length := by omega
       have hrd9 := (st.rowsAt 3 rfl hmem)
       simp only [hv9] at hrd9
       obtain ⟨A9', n9', c9', he9, _, _, _, hrd9⟩ := hrd9
       cases he9
       obtain ⟨g9, o9, rfl, hc9⟩ := Rd.flat eC 2 hrd9 (fun _ => rfl) (by omega) (by omega)
       have hcell := hc9 i hit
       have htk := List.take_succ_eq_append_getElem hit
       obtain ⟨e, hee⟩ : ∃ e, (rowE (sws ws) (r + 1))[i] = e := ⟨_, rfl⟩
       rw [hee] at hcell htk
       have hk' : ((rowE (sws ws) (r + 1)).take (i + 1)).countP isItem = k + if isItem e = true then 1 else 0 := by
        rw [htk, List.countP_append, List.countP_singleton, hk]
       obtain ⟨q1, q2, _⟩ := row_take (sws_asc ws) r (i + 1) (by omega)
       unfold numI at q1 q2
       rw [sws_length] at q2
       refine X_skip (X_seq (X_block (X_seq (X_reg ?_))))
       refine XR_a (op_index (i := i) rfl rfl rfl (by omega)) rfl rfl ?_
       refine XR_a (op_ldA (vs := eC e) (fun j u hu => hcell j u hu) rfl rfl rfl rfl) rfl rfl ?_
       refine XR_wa (opl_new rfl) rfl rfl rfl ?_
       rintro _ hp ⟨p12, rfl, hnew⟩
       replace st := st.new hnew
       refine XR_wn (opl_store_whole (us := eC e) st 0 rfl rfl rfl rfl rfl (one_eC e) rfl) rfl rfl fun _ hp st => ?_
       simp only [List.set_cons_zero] at st
       refine XR_nil (X_seq (X_reg ?_))
       first | refine XR_a (op_field0 rfl rfl) rfl rfl ?_ | refine XR_a (op_fieldn rfl rfl) rfl rfl ?_
       refine XR_a (op_ld (st.cell 0 (i := 1) rfl rfl) rfl rfl rfl) rfl rfl ?_
       refine XR_nil ?_
       refine X_cond rfl (fun h => ?_) (fun h => ?_)
       ·rw [if_pos h] at hk'
        have hks : k < (syms ws).length := by omega
        obtain ⟨g5, o5, rfl, hc5⟩ := (st.rdS 5 rfl).2.at_ (by rw [List.length_map]; omega)
        have hsk := hc5 k (nV ((syms ws).getD k 0)) (by rw [List.getElem?_map, List.getElem?_eq_getElem hks, getD_eq hks]; rfl)
        have hsn := (mem_syms.1 (getD_mem (l := syms ws) hks)).1
        have hog := outIn_get (L := dn) (k := k) hsn
        rw [idxOf_getD hks, if_neg (by omega), Nat.add_zero] at hog
        obtain ⟨g6, o6, he6, hc6⟩ := (st.rdS 2 rfl).2.at_ (by rw [List.length_map, outIn_len]; omega)
        cases he6
        have hov := hc6 _ _ (map_get_nV hog)
        have hset := outIn_set (L := dn) hks
        have hlv := lvl_le dn k
        have hdl : dn.length ≤ 15 := by
         have := congrArg List.length hlev
         rw [List.length_append, lev_length] at this
         have := levW_length (ws := ws)
         omega
        refine X_seq ?_
        refine X_draw byKind (by kernel_rfl) (by kernel_rfl) ?_
        refine XR_a (op_ld (st.cell 7 (i := 0) rfl rfl) rfl rfl rfl) rfl rfl ?_
        refine XR_a (op_ld (st.cell 6 (i := 0) rfl rfl) rfl rfl rfl) rfl rfl ?_
        refine XV rfl rfl rfl ?_
        first | refine XR_a (op_index1 rfl rfl rfl (by omega)) rfl rfl ?_ | refine XR_a (op_index rfl rfl rfl (by omega)) rfl rfl ?_
        refine XR_a (op_ld (hsk) rfl rfl rfl) rfl rfl ?_
        first | refine XR_a (op_index1 rfl rfl rfl (by omega)) rfl rfl ?_ | refine XR_a (op_index rfl rfl rfl (by omega)) rfl rfl ?_
        refine XR_a (op_ld (hov) rfl rfl rfl) rfl rfl ?_
        first | refine XR_a (op_addN (n := 1) rfl rfl (by simp only [inK]; omega)) rfl rfl ?_ | refine XR_a (op_addI rfl rfl (by simp only [inK]; omega)) rfl rfl ?_ | refine XR_a (op_add rfl rfl) rfl rfl ?_
        first | refine XR_a (op_index1 rfl rfl rfl (by omega)) rfl rfl ?_ | refine XR_a (op_index rfl rfl rfl (by omega)) rfl rfl ?_
        refine XR_wn (opl_store_row (v := nV (lvl dn k + 1)) st 2 rfl rfl rfl (by rw [List.length_map, outIn_len]; omega) rfl rfl) rfl rfl fun _ hp st => ?_
        simp only [List.set_cons_zero, List.set_cons_succ] at st
        rw [map_set_nV, hset] at st
        refine XR_nil (X_reg (XV rfl rfl rfl ?_))
        first | refine XR_a (op_addN (n := 1) rfl rfl (by simp only [inK]; omega)) rfl rfl ?_ | refine XR_a (op_addI rfl rfl (by simp only [inK]; omega)) rfl rfl ?_ | refine XR_a (op_add rfl rfl) rfl rfl ?_
        refine XA rfl rfl rfl (XR_nil (X_blk (X_reg ?_)))
        first | refine XR_a (op_addN (n := 1) rfl rfl (by simp only [inK]; omega)) rfl rfl ?_ | refine XR_a (op_addI rfl rfl (by simp only [inK]; omega)) rfl rfl ?_ | refine XR_a (op_add rfl rfl) rfl rfl ?_
        refine XV rfl rfl rfl (XR_nil ?_)
        exact X_again (i + 1, k + 1) (.cons rfl (.cons rfl (.cons rfl (.cons rfl (.cons rfl (.cons rfl (.cons rfl (.nil _)))))))) ⟨by simp only; omega, hk'.symm, st.low, st.tail⟩ (by simp only; omega)
       ·refine X_skip (X_blk (X_reg ?_))
        first | refine XR_a (op_addN (n := 1) rfl rfl (by simp only [inK]; omega)) rfl rfl ?_ | refine XR_a (op_addI rfl rfl (by simp only [inK]; omega)) rfl rfl ?_ | refine XR_a (op_add rfl rfl) rfl rfl ?_
        refine XV rfl rfl rfl (XR_nil ?_)
        have hff : ¬ isItem e = true := by simpa using h
        rw [if_neg hff, Nat.add_zero] at hk'
        exact X_again (i + 1, k) (.cons rfl (.cons rfl (.cons rfl (.cons rfl (.cons rfl (.cons rfl (.cons rfl (.nil _)))))))) ⟨by simp only; omega, hk'.symm, st.low, st.tail⟩ (by simp only; omega)
      ·refine X_exit rfl ?_
       obtain rfl : i = t := by omega
       have hkn : k = numI (sws ws) (r + 1) i := hk
       refine X_reg ?_
       refine XR_a (op_ld (st.cell 0 (i := 0) rfl rfl) rfl rfl rfl) rfl rfl ?_
       refine XV rfl rfl rfl ?_
       first | refine XR_a (op_subN rfl rfl (by omega) (by simp only [inK]; omega)) rfl rfl ?_ | refine XR_a (op_subI rfl rfl (by simp only [inK]; omega)) rfl rfl ?_ | refine XR_a (op_sub rfl rfl) rfl rfl ?_
       first | refine XR_a (op_mulN (m := 2) rfl rfl (by simp only [inK]; omega)) rfl rfl ?_ | refine XR_a (op_mulI rfl rfl (by simp only [inK]; omega)) rfl rfl ?_ | refine XR_a (op_mul rfl rfl) rfl rfl ?_
       refine XR_wn (opl_store_pt st 0 rfl rfl rfl rfl rfl (rfl)) rfl rfl fun _ hp st => ?_
       simp only [List.set_cons_zero, List.set_cons_succ] at st
       refine XR_nil (X_blk ?_)
       refine X_rnd (st.obj_at 2 rfl) ⟨rfl, ?_⟩
       replace st := st.loop 2 .ready none rfl
       simp only [List.set_cons_zero, List.set_cons_succ] at st
       rw [outIn_done] at st
       have hj1 : 15 - (j + 1) = r := by omega
       simp only [List.cons_append, List.nil_append, hj1]
       refine St.ex.2 ⟨(dn ++ [k], 2 * (i - k)), St.and.2 ⟨⟨?_, ?_⟩, St.star.2 st⟩⟩
       ·rw [← hlev, lev, ← hkn]; simp
       ·rw [← hkn] at k3; exact k3
     rintro _ h' st2
     subst hJR
     simp only [List.cons_append, List.nil_append] at st2
     refine .inl ⟨_, (st11.trans st2).perm (List.Perm.swap _ _ _), fun hp3 st3 => ?_⟩
     obtain ⟨⟨dn, t⟩, st3⟩ := St.ex.1 (st3.perm (List.Perm.swap _ _ _))
     obtain ⟨⟨hlev, _⟩, st3⟩ := St.and.1 st3
     have st := St.star.1 st3
     simp only at hlev st
     rw [show 15 - 15 = 0 from rfl, lev, List.append_nil] at hlev
     rw [hlev, outAt_levW] at st
     refine X_blk (X_seq (X_reg ?_))
     refine XR_a (op_ld (st.cell 6 (i := 0) rfl rfl) rfl rfl rfl) rfl rfl ?_
     refine XA rfl rfl rfl (XA rfl rfl rfl (XR_nil ?_))
     refine X_retM (d := d) (.cons (.tmp rfl) (.cons (.tmp rfl) .nil)) ?_ (st.obj_at 7 rfl)
     replace st := st.put 7 (.deferred none) rfl
     exact ⟨_, rfl, (st.re 8 [1, 0, 2, 3, 4, 5, 6, 7] (by decide)).keep 1⟩
end Go.Bn
end
