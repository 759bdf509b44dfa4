/- The contract of runs.Take. -/
import Derived.Test.YtdiglnhhmbhhjaaRuns2
set_option linter.unusedVariables false
set_option linter.unusedSimpArgs false
set_option maxHeartbeats 4000000
set_option maxRecDepth 20000
namespace Go.Bn
open Go Proofs

theorem add_bad {B s m : Nat} {v : Value} {l : List Nat} {F : List Res} {h0 : Heap} (st : St B h0 h0 (Bn.row 3 1 v (l.map nV) :: F)) (hs : s < 19) (hm1 : rL s ≤ m) (hm2 : m ≤ rH s) (hl : l.length ≤ 65536) (hz : s = 16 ∧ l.length = 0) :
    Ret Try.prog 79 [v, .agg #[nV s, nV m]] h0 fun u h' => u = retVal [.slice none 0 0, nV 3] ∧ St B h0 h' F := by
  refine (add_spec st hs hm1 hm2 hl).mono ?_
  rintro u h' (⟨_, _, h⟩ | ⟨h, _⟩)
  · exact h
  · exact absurd hz h
theorem add_ok {B s m : Nat} {v : Value} {l : List Nat} {F : List Res} {h0 : Heap} (st : St B h0 h0 (Bn.row 3 1 v (l.map nV) :: F)) (hs : s < 19) (hm1 : rL s ≤ m) (hm2 : m ≤ rH s) (hl : l.length ≤ 65536) (hz : ¬ (s = 16 ∧ l.length = 0)) :
    Ret Try.prog 79 [v, .agg #[nV s, nV m]] h0 fun u h' => ∃ w, u = retVal [w, nV 0] ∧ St B h0 h' (Bn.row 3 1 w ((rAdd l s m).map nV) :: F) := by
  refine (add_spec st hs hm1 hm2 hl).mono ?_
  rintro u h' (⟨h1, h2, _⟩ | ⟨_, h⟩)
  · exact absurd ⟨h1, h2⟩ hz
  · exact h
theorem goT_step {ls : List Nat} {bs : List Bool} {n f a : Nat} {l : List Nat} (h : l.length < n) {x y e a2 : Nat} (hO : oneR ls bs a = (x, y, e, a2)) :
    goT ls bs n (f + 1) a l = if e ≠ 0 then ([], 0, e) else if x = 16 ∧ l.length = 0 then ([], 0, 3) else if n < l.length + y then ([], 0, 3) else goT ls bs n f a2 (rAdd l x y) := by
  rw [goT, if_neg (by omega)]
  unfold oneR at hO
  by_cases h1 : (takeC ls (bs.drop a)).2.2 ≠ 0
  · rw [if_pos h1] at hO ⊢
    cases hO
    rw [if_pos h1]
  · rw [if_neg h1] at hO ⊢
    by_cases h2 : bs.length < a + (takeC ls (bs.drop a)).2.1 + rW (takeC ls (bs.drop a)).1
    · rw [if_pos h2] at hO ⊢
      cases hO
      rw [if_pos (by omega)]
    · rw [if_neg h2] at hO ⊢
      cases hO
      rw [if_neg (show ¬ (0 : Nat) ≠ 0 by omega)]
theorem oneR_ok {ls : List Nat} {bs : List Bool} {a x y a2 : Nat} (hok : lensOK ls) (hO : oneR ls bs a = (x, y, 0, a2)) : x < ls.length ∧ rL x ≤ y ∧ y ≤ rH x := by
  unfold oneR at hO
  split at hO
  · rename_i h
    have := congrArg (fun z => z.2.2.1) hO
    simp only at this
    omega
  · rename_i h
    split at hO
    · have := congrArg (fun z => z.2.2.1) hO
      simp at this
    · have hs := takeC_sym hok (Decidable.not_not.1 h)
      obtain ⟨hs1, _⟩ := hs
      cases hO
      exact ⟨hs1, Nat.le_add_right _ _, rL_num (numB_lt _ _ _)⟩
theorem headE_num {bs : List Bool} {a : Nat} {ok : Bool} (h : headE bs a ok = 0) : 1 ≤ numB bs a 9 ∧ numB bs a 9 ≤ 320 := by
  unfold headE at h
  split at h
  · omega
  · split at h
    · omega
    · omega
theorem perm_cba {a b c : Res} {F : List Res} : (a :: b :: c :: F).Perm (c :: b :: a :: F) :=
  ((List.Perm.swap _ _ _).trans ((List.Perm.swap _ _ _).cons _)).trans (List.Perm.swap _ _ _)

theorem rtake_runs {B q m c a : Nat} {A : Option Addr} {l : List UInt8} {F : List Res} {h0 : Heap} (st0 : St B h0 h0 (rdG q A m c a :: F)) (hrB : ∀ h', Low B h0 h' → Rd h' A (l.map byteV)) (hl : l.length = m) (hm : m ≤ 1073741824) (ha : a ≤ 8 * m) :
    Ret Try.prog 42 [.pointer (some ⟨q, 0, none⟩)] h0 fun v h' => ∃ w a', v = retVal [w, nV (takeR (bitsB l) a (okR (bitsB l) a)).2.2] ∧ a' ≤ 8 * m ∧ ((takeR (bitsB l) a (okR (bitsB l) a)).2.2 = 0 → a' = (takeR (bitsB l) a (okR (bitsB l) a)).2.1) ∧
      St B h0 h' (Bn.row 3 1 w ((takeR (bitsB l) a (okR (bitsB l) a)).1.map nV) :: rdG q A m c a' :: F) := by
  have hR : takeR (bitsB l) a (okR (bitsB l) a) = if headE (bitsB l) a (okR (bitsB l) a) ≠ 0 then ([], 0, headE (bitsB l) a (okR (bitsB l) a)) else goT (lens19 (bitsB l) (a + 9) 19) (bitsB l) (numB (bitsB l) a 9) 321 (a + 85) [] := rfl
  obtain ⟨R, hRe⟩ : ∃ R, takeR (bitsB l) a (okR (bitsB l) a) = R := ⟨_, rfl⟩
  rw [hRe] at hR ⊢
  refine ret_of_X Try.func42 rfl rfl fun w0 hw0 => ?_
  simp only [argE, Nat.zero_add, Nat.reduceAdd]
  refine X_seq ?_
  refine X_reg ?_
  refine XR_a (op_assign rfl) rfl rfl ?_
  by_cases he : headE (bitsB l) a (okR (bitsB l) a) = 0
  · refine XR_a (op_assign rfl) rfl rfl ?_
    refine XR_nil ?_
    refine X_seq ?_
    refine X_seq ?_
    refine X_reg ?_
    refine XR_a (op_move rfl) rfl rfl ?_
    refine XR_a (op_ptr_nil rfl rfl rfl) rfl rfl ?_
    refine XR_nil ?_
    refine X_else rfl ?_
    refine X_skip ?_
    refine X_seq ?_
    refine X_reg ?_
    refine XR_a (op_move rfl) rfl rfl ?_
    refine XR_wa (opl_call (head_spec st0 hrB hl hm ha) rfl (by kernel_rfl)) rfl rfl rfl ?_
    rintro _ hp ⟨n', w', a1, rfl, ha1, hok1, hbad1⟩
    refine XR_a (op_move rfl) rfl rfl ?_
    refine XR_a (op_extract rfl rfl) rfl rfl ?_
    refine XR_a (op_extract rfl rfl) rfl rfl ?_
    refine XR_a (op_extract rfl rfl) rfl rfl ?_
    refine XR_a (op_assign rfl) rfl rfl ?_
    refine XR_a (op_assign rfl) rfl rfl ?_
    refine XR_a (op_assign rfl) rfl rfl ?_
    refine XR_nil ?_
    refine X_seq ?_
    refine X_seq ?_
    refine X_reg ?_
    refine XR_a (op_move rfl) rfl rfl ?_
    refine XR_a (op_neq rfl rfl) rfl rfl ?_
    refine XR_as (.bool false) (congrArg Value.bool (decide_eq_false (by omega))) ?_
    refine XR_nil ?_
    refine X_else rfl ?_
    refine X_skip ?_
    refine X_seq ?_
    refine X_reg ?_
    refine XR_a (op_assign rfl) rfl rfl ?_
    refine XR_nil ?_
    refine X_seq ?_
    refine X_block ?_
    obtain ⟨rfl, ha85, hlok, p, rfl, st⟩ := hok1 he
    obtain ⟨hn1, hn320⟩ := headE_num he
    rw [if_neg (by omega)] at hR
    have h19 := lens19_len (bitsB l) (a + 9) 19
    obtain ⟨ls, hls⟩ : ∃ ls, lens19 (bitsB l) (a + 9) 19 = ls := ⟨_, rfl⟩
    obtain ⟨n, hn⟩ : ∃ n, numB (bitsB l) a 9 = n := ⟨_, rfl⟩
    rw [hls] at st hlok hR h19
    rw [hn] at hR hn1 hn320 ⊢
    clear hok1 hbad1
    replace st := st.nilrow 3 1
    refine X_loop (fun s => n - s.2.2.1.length) (fun s => [(0, .pointer (some ⟨q, 0, none⟩)), (4, nV n), (5, .pointer (some ⟨p, 0, none⟩)), (7, s.2.2.2)])
      (fun (s : Nat × Nat × List Nat × Value) hp => goT ls (bitsB l) n s.1 s.2.1 s.2.2.1 = R ∧ n < s.1 + s.2.2.1.length ∧ s.2.2.1.length ≤ n ∧ s.2.1 ≤ 8 * m ∧ St B h0 hp (Bn.row 3 1 s.2.2.2 (s.2.2.1.map nV) :: codeR p ls :: rdG q A m c s.2.1 :: F))
      (321, a + 85, [], _) (.cons rfl (.cons rfl (.cons rfl (.cons rfl (.nil _))))) ⟨hR.symm, by simp only [List.length_nil]; omega, by simp, ha85, st⟩ ?_
    clear st hR
    rintro ⟨f, a1, L, v⟩ hp ⟨hg, hf, hLn, ha1, st⟩
    simp only at hg hf hLn ha1 st ⊢
    obtain ⟨A9, n9, c9, rfl, hl9, _, _, _⟩ := st.row 0 rfl
    rw [List.length_map, Nat.mul_one] at hl9
    refine X_seq ?_
    refine X_seq ?_
    refine X_reg ?_
    refine XR_a (op_move rfl) rfl rfl ?_
    refine XR_a (op_len rfl rfl rfl) rfl rfl ?_
    refine XR_a (op_move rfl) rfl rfl ?_
    refine XR_a (op_lss rfl rfl) rfl rfl ?_
    refine XR_nil ?_
    refine X_if rfl (fun h => ?_) (fun h => ?_)
    · obtain ⟨f', rfl⟩ : ∃ f', f = f' + 1 := ⟨f - 1, by omega⟩
      obtain ⟨⟨x, y, e, a2⟩, hO⟩ : ∃ O, oneR ls (bitsB l) a1 = O := ⟨_, rfl⟩
      rw [goT_step (by omega) hO] at hg
      have h1 := one_spec (st.here.perm perm_cba) hlok (fun h' hx => hrB h' (st.low.trans hx)) hl hm ha1
      rw [hO] at h1
      simp only at h1
      refine X_skip ?_
      refine X_block ?_
      refine X_seq ?_
      refine X_reg ?_
      refine XR_a (op_move rfl) rfl rfl ?_
      refine XR_a (op_move rfl) rfl rfl ?_
      refine XR_wa (opl_call (h1) rfl (by kernel_rfl)) rfl rfl rfl ?_
      rintro _ hp2 ⟨rfl, ha2, st2⟩
      replace st := st.trans (st2.perm perm_cba)
      refine XR_a (op_move rfl) rfl rfl ?_
      refine XR_a (op_extract rfl rfl) rfl rfl ?_
      refine XR_a (op_extract rfl rfl) rfl rfl ?_
      refine XR_wa (opl_new rfl) rfl rfl rfl ?_
      rintro _ hp ⟨p8, rfl, hnew⟩
      replace st := st.new hnew
      refine XR_wn (opl_store_whole (us := [nV x, nV y]) st 0 rfl rfl rfl rfl rfl (one_nV [x, y]) rfl) rfl rfl fun _ hp st => ?_
      simp only [List.set_cons_zero] at st
      refine XR_a (op_assign rfl) rfl rfl ?_
      refine XR_nil ?_
      refine X_seq ?_
      refine X_seq ?_
      refine X_reg ?_
      refine XR_a (op_move rfl) rfl rfl ?_
      refine XR_a (op_eql rfl rfl) rfl rfl ?_
      refine XR_nil ?_
      refine X_if rfl (fun h => ?_) (fun h => ?_)
      · obtain rfl : e = 0 := by omega
        obtain ⟨hx19, hy1, hy2⟩ := oneR_ok hlok hO
        have hrh := rH_le x
        rw [if_neg (show ¬ (0 : Nat) ≠ 0 by omega)] at hg
        refine X_reg ?_
        refine XR_a (op_move rfl) rfl rfl ?_
        refine XR_a (op_ldA (st.cells 0 rfl) rfl rfl rfl rfl) rfl rfl ?_
        by_cases hz : x = 16 ∧ L.length = 0
        · refine XR_wa (opl_call (add_bad (st.here.perm (List.Perm.swap _ _ _)) (by omega) hy1 hy2 (by omega) hz) rfl (by kernel_rfl)) rfl rfl rfl ?_
          rintro _ hp3 ⟨rfl, st3⟩
          replace st := st.trans st3
          rw [if_pos hz] at hg
          refine XR_a (op_move rfl) rfl rfl ?_
          refine XR_a (op_extract rfl rfl) rfl rfl ?_
          refine XR_a (op_extract rfl rfl) rfl rfl ?_
          refine XR_a (op_assign rfl) rfl rfl ?_
          refine XR_a (op_assign rfl) rfl rfl ?_
          refine XR_nil ?_
          refine X_block ?_
          refine X_seq ?_
          refine X_reg ?_
          refine XR_a (op_move rfl) rfl rfl ?_
          refine XR_a (op_neq rfl rfl) rfl rfl ?_
          refine XR_a (op_assign rfl) rfl rfl ?_
          refine XR_nil ?_
          refine X_then rfl ?_
          refine X_seq ?_
          refine X_reg ?_
          refine XR_a (op_move rfl) rfl rfl ?_
          refine XR_a (op_assign rfl) rfl rfl ?_
          refine XR_a (op_assign rfl) rfl rfl ?_
          refine XR_nil ?_
          refine X_ret (.cons (.tmp rfl) (.cons (.tmp rfl) .nil)) ?_
          rw [← hg]
          exact ⟨_, a2, rfl, ha2, fun hh => absurd hh (by decide), (st.tail.tail.nilrow 3 1)⟩
        · refine XR_wa (opl_call (add_ok (st.here.perm (List.Perm.swap _ _ _)) (by omega) hy1 hy2 (by omega) hz) rfl (by kernel_rfl)) rfl rfl rfl ?_
          rintro _ hp3 ⟨w3, rfl, st3⟩
          replace st := st.trans st3
          rw [if_neg hz] at hg
          obtain ⟨A8, n8, c8, rfl, hl8, _, _, _⟩ := st.row 0 rfl
          rw [List.length_map, Nat.mul_one, rAdd_len] at hl8
          refine XR_a (op_move rfl) rfl rfl ?_
          refine XR_a (op_extract rfl rfl) rfl rfl ?_
          refine XR_a (op_extract rfl rfl) rfl rfl ?_
          refine XR_a (op_assign rfl) rfl rfl ?_
          refine XR_a (op_assign rfl) rfl rfl ?_
          refine XR_nil ?_
          refine X_block ?_
          refine X_seq ?_
          refine X_reg ?_
          refine XR_a (op_move rfl) rfl rfl ?_
          refine XR_a (op_neq rfl rfl) rfl rfl ?_
          refine XR_a (op_assign rfl) rfl rfl ?_
          refine XR_nil ?_
          refine X_else rfl ?_
          refine X_seq ?_
          refine X_reg ?_
          refine XR_a (op_move rfl) rfl rfl ?_
          refine XR_a (op_len rfl rfl rfl) rfl rfl ?_
          refine XR_a (op_move rfl) rfl rfl ?_
          refine XR_a (op_gtr rfl rfl) rfl rfl ?_
          refine XR_a (op_assign rfl) rfl rfl ?_
          refine XR_nil ?_
          refine X_if rfl (fun h => ?_) (fun h => ?_)
          · refine X_seq ?_
            refine X_reg ?_
            refine XR_a (op_assign rfl) rfl rfl ?_
            refine XR_a (op_assign rfl) rfl rfl ?_
            refine XR_nil ?_
            refine X_ret (.cons (.tmp rfl) (.cons (.tmp rfl) .nil)) ?_
            rw [if_pos (show n < L.length + y by omega)] at hg
            rw [← hg]
            exact ⟨_, a2, rfl, ha2, fun hh => absurd hh (by decide), (st.tail.tail.tail.nilrow 3 1)⟩
          · refine X_skip ?_
            refine X_blk ?_
            refine X_blk ?_
            rw [if_neg (show ¬ n < L.length + y by omega)] at hg
            have st9 := (st.perm ((List.Perm.swap _ _ _))).tail
            have hrp := rL_pos x
            exact X_again (f', a2, rAdd L x y, _) (.cons rfl (.cons rfl (.cons rfl (.cons rfl (.nil _))))) ⟨hg, by simp only [rAdd_len]; omega, by simp only [rAdd_len]; omega, ha2, st9⟩ (by simp only [rAdd_len]; have := rL_pos x; omega)
      · refine X_skip ?_
        refine X_block ?_
        refine X_seq ?_
        refine X_reg ?_
        refine XR_a (op_move rfl) rfl rfl ?_
        refine XR_a (op_neq rfl rfl) rfl rfl ?_
        refine XR_a (op_assign rfl) rfl rfl ?_
        refine XR_nil ?_
        refine X_if rfl (fun h => ?_) (fun h => ?_)
        · refine X_seq ?_
          refine X_reg ?_
          refine XR_a (op_move rfl) rfl rfl ?_
          refine XR_a (op_assign rfl) rfl rfl ?_
          refine XR_a (op_assign rfl) rfl rfl ?_
          refine XR_nil ?_
          refine X_ret (.cons (.tmp rfl) (.cons (.tmp rfl) .nil)) ?_
          rw [if_pos (show e ≠ 0 by omega)] at hg
          rw [← hg]
          exact ⟨_, a2, rfl, ha2, fun hh => absurd hh (by simp only; omega), (st.tail.tail.tail.nilrow 3 1)⟩
        · exact absurd h (by omega)
    · refine X_exit rfl ?_
      refine X_seq ?_
      refine X_reg ?_
      refine XR_a (op_move rfl) rfl rfl ?_
      refine XR_a (op_assign rfl) rfl rfl ?_
      refine XR_a (op_assign rfl) rfl rfl ?_
      refine XR_nil ?_
      refine X_ret (.cons (.tmp rfl) (.cons (.tmp rfl) .nil)) ?_
      obtain ⟨f', rfl⟩ : ∃ f', f = f' + 1 := ⟨f - 1, by omega⟩
      rw [goT, if_pos (by omega)] at hg
      rw [← hg]
      exact ⟨_, a1, rfl, ha1, fun _ => rfl, (st.perm ((List.Perm.swap _ _ _))).tail⟩
  · refine XR_a (op_assign rfl) rfl rfl ?_
    refine XR_nil ?_
    refine X_seq ?_
    refine X_seq ?_
    refine X_reg ?_
    refine XR_a (op_move rfl) rfl rfl ?_
    refine XR_a (op_ptr_nil rfl rfl rfl) rfl rfl ?_
    refine XR_nil ?_
    refine X_else rfl ?_
    refine X_skip ?_
    refine X_seq ?_
    refine X_reg ?_
    refine XR_a (op_move rfl) rfl rfl ?_
    refine XR_wa (opl_call (head_spec st0 hrB hl hm ha) rfl (by kernel_rfl)) rfl rfl rfl ?_
    rintro _ hp ⟨n', w', a1, rfl, ha1, hok1, hbad1⟩
    refine XR_a (op_move rfl) rfl rfl ?_
    refine XR_a (op_extract rfl rfl) rfl rfl ?_
    refine XR_a (op_extract rfl rfl) rfl rfl ?_
    refine XR_a (op_extract rfl rfl) rfl rfl ?_
    refine XR_a (op_assign rfl) rfl rfl ?_
    refine XR_a (op_assign rfl) rfl rfl ?_
    refine XR_a (op_assign rfl) rfl rfl ?_
    refine XR_nil ?_
    refine X_seq ?_
    refine X_seq ?_
    refine X_reg ?_
    refine XR_a (op_move rfl) rfl rfl ?_
    refine XR_a (op_neq rfl rfl) rfl rfl ?_
    refine XR_as (.bool true) (congrArg Value.bool (decide_eq_true (by omega))) ?_
    refine XR_nil ?_
    refine X_then rfl ?_
    refine X_seq ?_
    refine X_reg ?_
    refine XR_a (op_move rfl) rfl rfl ?_
    refine XR_a (op_assign rfl) rfl rfl ?_
    refine XR_a (op_assign rfl) rfl rfl ?_
    refine XR_nil ?_
    refine X_ret (.cons (.tmp rfl) (.cons (.tmp rfl) .nil)) ?_
    rw [if_pos he] at hR
    rw [hR]
    exact ⟨_, a1, rfl, ha1, fun hh => absurd hh he, (hbad1 he).nilrow 3 1⟩

theorem rtake_runs_nil (h0 : Heap) : Ret Try.prog 42 [.pointer none] h0 fun v h' => v = retVal [.slice none 0 0, nV 1] ∧ h0 = h' := by
  refine ret_of_X Try.func42 rfl rfl fun w0 hw0 => ?_
  simp only [argE, Nat.zero_add, Nat.reduceAdd]
  refine X_seq ?_
  refine X_reg ?_
  refine XR_a (op_assign rfl) rfl rfl ?_
  refine XR_a (op_assign rfl) rfl rfl ?_
  refine XR_nil ?_
  refine X_seq ?_
  refine X_seq ?_
  refine X_reg ?_
  refine XR_a (op_move rfl) rfl rfl ?_
  refine XR_a (op_ptr_nil rfl rfl rfl) rfl rfl ?_
  refine XR_nil ?_
  refine X_then rfl ?_
  refine X_seq ?_
  refine X_reg ?_
  refine XR_a (op_assign rfl) rfl rfl ?_
  refine XR_a (op_assign rfl) rfl rfl ?_
  refine XR_nil ?_
  refine X_ret (.cons (.tmp rfl) (.cons (.tmp rfl) .nil)) ?_
  exact ⟨rfl, rfl⟩
end Go.Bn
