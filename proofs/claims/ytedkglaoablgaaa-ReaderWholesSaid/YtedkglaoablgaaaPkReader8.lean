/- Packed texts of a claim: what its theorem uses, joined. -/
import Derived.Test.YtedkglaoablgaaaProg
import Derived.Test.YtedkglaoablgaaaPkReader7
section
set_option linter.unusedVariables false
set_option linter.unusedSimpArgs false
set_option maxHeartbeats 4000000
set_option maxRecDepth 20000
namespace Go.Bn
open Go Proofs
theorem add_bad {B s m : Nat} {v : Value} {l : List Nat} {F : List Res} {h0 : Heap} (st : St B h0 h0 (Bn.row 3 1 v (l.map nV) :: F)) (hs : s < 19) (hm1 : rL s ≤ m) (hm2 : m ≤ rH s) (hl : l.length ≤ 65536) (hz : s = 16 ∧ l.length = 0) :
    Ret Try.prog 109 [v, .agg #[nV s, nV m]] h0 fun u h' => u = retVal [.slice none 0 0, nV 3] ∧ St B h0 h' F := by
  refine (add_spec st hs hm1 hm2 hl).mono ?_
  rintro u h' (⟨_, _, h⟩ | ⟨h, _⟩)
  · exact h
  · exact absurd hz h
theorem add_ok {B s m : Nat} {v : Value} {l : List Nat} {F : List Res} {h0 : Heap} (st : St B h0 h0 (Bn.row 3 1 v (l.map nV) :: F)) (hs : s < 19) (hm1 : rL s ≤ m) (hm2 : m ≤ rH s) (hl : l.length ≤ 65536) (hz : ¬ (s = 16 ∧ l.length = 0)) :
    Ret Try.prog 109 [v, .agg #[nV s, nV m]] h0 fun u h' => ∃ w, u = retVal [w, nV 0] ∧ St B h0 h' (Bn.row 3 1 w ((rAdd l s m).map nV) :: F) := by
  refine (add_spec st hs hm1 hm2 hl).mono ?_
  rintro u h' (⟨h1, h2, _⟩ | ⟨_, h⟩)
  · exact absurd ⟨h1, h2⟩ hz
  · exact h
theorem goT_step {ls : List Nat} {bs : List Bool} {n f a : Nat} {l : List Nat} (h : l.length < n) {x y e a2 : Nat} (hO : oneR ls bs a = (x, y, e, a2)) :
    goT ls bs n (f + 1) a l = if e ≠ 0 then ([], 0, e) else if x = 16 ∧ l.length = 0 then ([], 0, 3) else if n < l.length + y then ([], 0, 3) else goT ls bs n f a2 (rAdd l x y) := by
  rw [goT, if_neg (by omega)]
  unfold oneR at hO
  by_cases h1 : (takeC ls (bs.drop a)).2.2 ≠ 0
  · rw [if_pos h1] at hO ⊢
    cases hO
    rw [if_pos h1]
  · rw [if_neg h1] at hO ⊢
    by_cases h2 : bs.length < a + (takeC ls (bs.drop a)).2.1 + rW (takeC ls (bs.drop a)).1
    · rw [if_pos h2] at hO ⊢
      cases hO
      rw [if_pos (by omega)]
    · rw [if_neg h2] at hO ⊢
      cases hO
      rw [if_neg (show ¬ (0 : Nat) ≠ 0 by omega)]
theorem oneR_ok {ls : List Nat} {bs : List Bool} {a x y a2 : Nat} (hok : lensOK ls) (hO : oneR ls bs a = (x, y, 0, a2)) : x < ls.length ∧ rL x ≤ y ∧ y ≤ rH x := by
  unfold oneR at hO
  split at hO
  · rename_i h
    have := congrArg (fun z => z.2.2.1) hO
    simp only at this
    omega
  · rename_i h
    split at hO
    · have := congrArg (fun z => z.2.2.1) hO
      simp at this
    · have hs := takeC_sym hok (Decidable.not_not.1 h)
      obtain ⟨hs1, _⟩ := hs
      cases hO
      exact ⟨hs1, Nat.le_add_right _ _, rL_num (numB_lt _ _ _)⟩
theorem headE_num {bs : List Bool} {a : Nat} {ok : Bool} (h : headE bs a ok = 0) : 1 ≤ numB bs a 9 ∧ numB bs a 9 ≤ 320 := by
  unfold headE at h
  split at h
  · omega
  · split at h
    · omega
    · omega
theorem perm_cba {a b c : Res} {F : List Res} : (a :: b :: c :: F).Perm (c :: b :: a :: F) :=
  ((List.Perm.swap _ _ _).trans ((List.Perm.swap _ _ _).cons _)).trans (List.Perm.swap _ _ _)
theorem rtake_runs {B q m c a : Nat} {A : Option Addr} {l : List UInt8} {F : List Res} {h0 : Heap} (st0 : St B h0 h0 (rdG q A m c a :: F)) (hrB : ∀ h', Low B h0 h' → Rd h' A (l.map byteV)) (hl : l.length = m) (hm : m ≤ 1073741824) (ha : a ≤ 8 * m) :
    Ret Try.prog 77 [.pointer (some ⟨q, 0, none⟩)] h0 fun v h' => ∃ w a', v = retVal [w, nV (takeR (bitsB l) a (okR (bitsB l) a)).2.2] ∧ a' ≤ 8 * m ∧ ((takeR (bitsB l) a (okR (bitsB l) a)).2.2 = 0 → a' = (takeR (bitsB l) a (okR (bitsB l) a)).2.1) ∧
      St B h0 h' (Bn.row 3 1 w ((takeR (bitsB l) a (okR (bitsB l) a)).1.map nV) :: rdG q A m c a' :: F) := by
  have hR : takeR (bitsB l) a (okR (bitsB l) a) = if headE (bitsB l) a (okR (bitsB l) a) ≠ 0 then ([], 0, headE (bitsB l) a (okR (bitsB l) a)) else goT (lens19 (bitsB l) (a + 9) 19) (bitsB l) (numB (bitsB l) a 9) 321 (a + 85) [] := rfl
  obtain ⟨R, hRe⟩ : ∃ R, takeR (bitsB l) a (okR (bitsB l) a) = R := ⟨_, rfl⟩
  rw [hRe] at hR ⊢
  refine ret_of_X Try.func77 rfl rfl fun w0 hw0 => ?_
  simp only [argE, Nat.zero_add, Nat.reduceAdd]
  refine X_seq ?_
  refine X_reg ?_
  refine XR_a (op_assign rfl) rfl rfl ?_
  by_cases he : headE (bitsB l) a (okR (bitsB l) a) = 0
  · refine XR_a (op_assign rfl) rfl rfl ?_
    refine XR_nil ?_
    refine X_seq ?_
    refine X_seq ?_
    refine X_reg ?_
    refine XR_a (op_move rfl) rfl rfl ?_
    refine XR_a (op_ptr_nil rfl rfl rfl) rfl rfl ?_
    refine XR_nil ?_
    refine X_else rfl ?_
    refine X_skip ?_
    refine X_seq ?_
    refine X_reg ?_
    refine XR_a (op_move rfl) rfl rfl ?_
    refine XR_wa (opl_call (head_spec st0 hrB hl hm ha) rfl (by kernel_rfl)) rfl rfl rfl ?_
    rintro _ hp ⟨n', w', a1, rfl, ha1, hok1, hbad1⟩
    refine XR_a (op_move rfl) rfl rfl ?_
    refine XR_a (op_extract rfl rfl) rfl rfl ?_
    refine XR_a (op_extract rfl rfl) rfl rfl ?_
    refine XR_a (op_extract rfl rfl) rfl rfl ?_
    refine XR_a (op_assign rfl) rfl rfl ?_
    refine XR_a (op_assign rfl) rfl rfl ?_
    refine XR_a (op_assign rfl) rfl rfl ?_
    refine XR_nil ?_
    refine X_seq ?_
    refine X_seq ?_
    refine X_reg ?_
    refine XR_a (op_move rfl) rfl rfl ?_
    refine XR_a (op_neq rfl rfl) rfl rfl ?_
    refine XR_as (.bool false) (congrArg Value.bool (decide_eq_false (by omega))) ?_
    refine XR_nil ?_
    refine X_else rfl ?_
    refine X_skip ?_
    refine X_seq ?_
    refine X_reg ?_
    refine XR_a (op_assign rfl) rfl rfl ?_
    refine XR_nil ?_
    refine X_seq ?_
    refine X_block ?_
    obtain ⟨rfl, ha85, hlok, p, rfl, st⟩ := hok1 he
    obtain ⟨hn1, hn320⟩ := headE_num he
    rw [if_neg (by omega)] at hR
    have h19 := lens19_len (bitsB l) (a + 9) 19
    obtain ⟨ls, hls⟩ : ∃ ls, lens19 (bitsB l) (a + 9) 19 = ls := ⟨_, rfl⟩
    obtain ⟨n, hn⟩ : ∃ n, numB (bitsB l) a 9 = n := ⟨_, rfl⟩
    rw [hls] at st hlok hR h19
    rw [hn] at hR hn1 hn320 ⊢
    clear hok1 hbad1
    replace st := st.nilrow 3 1
    refine X_loop (fun s => n - s.2.2.1.length) (fun s => [(0, .pointer (some ⟨q, 0, none⟩)), (4, nV n), (5, .pointer (some ⟨p, 0, none⟩)), (7, s.2.2.2)])
      (fun (s : Nat × Nat × List Nat × Value) hp => goT ls (bitsB l) n s.1 s.2.1 s.2.2.1 = R ∧ n < s.1 + s.2.2.1.length ∧ s.2.2.1.length ≤ n ∧ s.2.1 ≤ 8 * m ∧ St B h0 hp (Bn.row 3 1 s.2.2.2 (s.2.2.1.map nV) :: codeR p ls :: rdG q A m c s.2.1 :: F))
      (321, a + 85, [], _) (.cons rfl (.cons rfl (.cons rfl (.cons rfl (.nil _))))) ⟨hR.symm, by simp only [List.length_nil]; omega, by simp, ha85, st⟩ ?_
    clear st hR
    rintro ⟨f, a1, L, v⟩ hp ⟨hg, hf, hLn, ha1, st⟩
    simp only at hg hf hLn ha1 st ⊢
    obtain ⟨A9, n9, c9, rfl, hl9, _, _, _⟩ := st.row 0 rfl
    rw [List.length_map, Nat.mul_one] at hl9
    refine X_seq ?_
    refine X_seq ?_
    refine X_reg ?_
    refine XR_a (op_move rfl) rfl rfl ?_
    refine XR_a (op_len rfl rfl rfl) rfl rfl ?_
    refine XR_a (op_move rfl) rfl rfl ?_
    refine XR_a (op_lss rfl rfl) rfl rfl ?_
    refine XR_nil ?_
    refine X_if rfl (fun h => ?_) (fun h => ?_)
    · obtain ⟨f', rfl⟩ : ∃ f', f = f' + 1 := ⟨f - 1, by omega⟩
      obtain ⟨⟨x, y, e, a2⟩, hO⟩ : ∃ O, oneR ls (bitsB l) a1 = O := ⟨_, rfl⟩
      rw [goT_step (by omega) hO] at hg
      have h1 := one_spec (st.here.perm perm_cba) hlok (fun h' hx => hrB h' (st.low.trans hx)) hl hm ha1
      rw [hO] at h1
      simp only at h1
      refine X_skip ?_
      refine X_block ?_
      refine X_seq ?_
      refine X_reg ?_
      refine XR_a (op_move rfl) rfl rfl ?_
      refine XR_a (op_move rfl) rfl rfl ?_
      refine XR_wa (opl_call (h1) rfl (by kernel_rfl)) rfl rfl rfl ?_
      rintro _ hp2 ⟨rfl, ha2, st2⟩
      replace st := st.trans (st2.perm perm_cba)
      refine XR_a (op_move rfl) rfl rfl ?_
      refine XR_a (op_extract rfl rfl) rfl rfl ?_
      refine XR_a (op_extract rfl rfl) rfl rfl ?_
      refine XR_wa (opl_new rfl) rfl rfl rfl ?_
      rintro _ hp ⟨p8, rfl, hnew⟩
      replace st := st.new hnew
      refine XR_wn (opl_store_whole (us := [nV x, nV y]) st 0 rfl rfl rfl rfl rfl (one_nV [x, y]) rfl) rfl rfl fun _ hp st => ?_
      simp only [List.set_cons_zero] at st
      refine XR_a (op_assign rfl) rfl rfl ?_
      refine XR_nil ?_
      refine X_seq ?_
      refine X_seq ?_
      refine X_reg ?_
      refine XR_a (op_move rfl) rfl rfl ?_
      refine XR_a (op_eql rfl rfl) rfl rfl ?_
      refine XR_nil ?_
      refine X_if rfl (fun h => ?_) (fun h => ?_)
      · obtain rfl : e = 0 := by omega
        obtain ⟨hx19, hy1, hy2⟩ := oneR_ok hlok hO
        have hrh := rH_le x
        rw [if_neg (show ¬ (0 : Nat) ≠ 0 by omega)] at hg
        refine X_reg ?_
        refine XR_a (op_move rfl) rfl rfl ?_
        refine XR_a (op_ldA (st.cells 0 rfl) rfl rfl rfl rfl) rfl rfl ?_
        by_cases hz : x = 16 ∧ L.length = 0
        · refine XR_wa (opl_call (add_bad (st.here.perm (List.Perm.swap _ _ _)) (by omega) hy1 hy2 (by omega) hz) rfl (by kernel_rfl)) rfl rfl rfl ?_
          rintro _ hp3 ⟨rfl, st3⟩
          replace st := st.trans st3
          rw [if_pos hz] at hg
          refine XR_a (op_move rfl) rfl rfl ?_
          refine XR_a (op_extract rfl rfl) rfl rfl ?_
          refine XR_a (op_extract rfl rfl) rfl rfl ?_
          refine XR_a (op_assign rfl) rfl rfl ?_
          refine XR_a (op_assign rfl) rfl rfl ?_
          refine XR_nil ?_
          refine X_block ?_
          refine X_seq ?_
          refine X_reg ?_
          refine XR_a (op_move rfl) rfl rfl ?_
          refine XR_a (op_neq rfl rfl) rfl rfl ?_
          refine XR_a (op_assign rfl) rfl rfl ?_
          refine XR_nil ?_
          refine X_then rfl ?_
          refine X_seq ?_
          refine X_reg ?_
          refine XR_a (op_move rfl) rfl rfl ?_
          refine XR_a (op_assign rfl) rfl rfl ?_
          refine XR_a (op_assign rfl) rfl rfl ?_
          refine XR_nil ?_
          refine X_ret (.cons (.tmp rfl) (.cons (.tmp rfl) .nil)) ?_
          rw [← hg]
          exact ⟨_, a2, rfl, ha2, fun hh => absurd hh (by decide), (st.tail.tail.nilrow 3 1)⟩
        · refine XR_wa (opl_call (add_ok (st.here.perm (List.Perm.swap _ _ _)) (by omega) hy1 hy2 (by omega) hz) rfl (by kernel_rfl)) rfl rfl rfl ?_
          rintro _ hp3 ⟨w3, rfl, st3⟩
          replace st := st.trans st3
          rw [if_neg hz] at hg
          obtain ⟨A8, n8, c8, rfl, hl8, _, _, _⟩ := st.row 0 rfl
          rw [List.length_map, Nat.mul_one, rAdd_len] at hl8
          refine XR_a (op_move rfl) rfl rfl ?_
          refine XR_a (op_extract rfl rfl) rfl rfl ?_
          refine XR_a (op_extract rfl rfl) rfl rfl ?_
          refine XR_a (op_assign rfl) rfl rfl ?_
          refine XR_a (op_assign rfl) rfl rfl ?_
          refine XR_nil ?_
          refine X_block ?_
          refine X_seq ?_
          refine X_reg ?_
          refine XR_a (op_move rfl) rfl rfl ?_
          refine XR_a (op_neq rfl rfl) rfl rfl ?_
          refine XR_a (op_assign rfl) rfl rfl ?_
          refine XR_nil ?_
          refine X_else rfl ?_
          refine X_seq ?_
          refine X_reg ?_
          refine XR_a (op_move rfl) rfl rfl ?_
          refine XR_a (op_len rfl rfl rfl) rfl rfl ?_
          refine XR_a (op_move rfl) rfl rfl ?_
          refine XR_a (op_gtr rfl rfl) rfl rfl ?_
          refine XR_a (op_assign rfl) rfl rfl ?_
          refine XR_nil ?_
          refine X_if rfl (fun h => ?_) (fun h => ?_)
          · refine X_seq ?_
            refine X_reg ?_
            refine XR_a (op_assign rfl) rfl rfl ?_
            refine XR_a (op_assign rfl) rfl rfl ?_
            refine XR_nil ?_
            refine X_ret (.cons (.tmp rfl) (.cons (.tmp rfl) .nil)) ?_
            rw [if_pos (show n < L.length + y by omega)] at hg
            rw [← hg]
            exact ⟨_, a2, rfl, ha2, fun hh => absurd hh (by decide), (st.tail.tail.tail.nilrow 3 1)⟩
          · refine X_skip ?_
            refine X_blk ?_
            refine X_blk ?_
            rw [if_neg (show ¬ n < L.length + y by omega)] at hg
            have st9 := (st.perm ((List.Perm.swap _ _ _))).tail
            have hrp := rL_pos x
            exact X_again (f', a2, rAdd L x y, _) (.cons rfl (.cons rfl (.cons rfl (.cons rfl (.nil _))))) ⟨hg, by simp only [rAdd_len]; omega, by simp only [rAdd_len]; omega, ha2, st9⟩ (by simp only [rAdd_len]; have := rL_pos x; omega)
      · refine X_skip ?_
        refine X_block ?_
        refine X_seq ?_
        refine X_reg ?_
        refine XR_a (op_move rfl) rfl rfl ?_
        refine XR_a (op_neq rfl rfl) rfl rfl ?_
        refine XR_a (op_assign rfl) rfl rfl ?_
        refine XR_nil ?_
        refine X_if rfl (fun h => ?_) (fun h => ?_)
        · refine X_seq ?_
          refine X_reg ?_
          refine XR_a (op_move rfl) rfl rfl ?_
          refine XR_a (op_assign rfl) rfl rfl ?_
          refine XR_a (op_assign rfl) rfl rfl ?_
          refine XR_nil ?_
          refine X_ret (.cons (.tmp rfl) (.cons (.tmp rfl) .nil)) ?_
          rw [if_pos (show e ≠ 0 by omega)] at hg
          rw [← hg]
          exact ⟨_, a2, rfl, ha2, fun hh => absurd hh (by simp only; omega), (st.tail.tail.tail.nilrow 3 1)⟩
        · exact absurd h (by omega)
    · refine X_exit rfl ?_
      refine X_seq ?_
      refine X_reg ?_
      refine XR_a (op_move rfl) rfl rfl ?_
      refine XR_a (op_assign rfl) rfl rfl ?_
      refine XR_a (op_assign rfl) rfl rfl ?_
      refine XR_nil ?_
      refine X_ret (.cons (.tmp rfl) (.cons (.tmp rfl) .nil)) ?_
      obtain ⟨f', rfl⟩ : ∃ f', f = f' + 1 := ⟨f - 1, by omega⟩
      rw [goT, if_pos (by omega)] at hg
      rw [← hg]
      exact ⟨_, a1, rfl, ha1, fun _ => rfl, (st.perm ((List.Perm.swap _ _ _))).tail⟩
  · refine XR_a (op_assign rfl) rfl rfl ?_
    refine XR_nil ?_
    refine X_seq ?_
    refine X_seq ?_
    refine X_reg ?_
    refine XR_a (op_move rfl) rfl rfl ?_
    refine XR_a (op_ptr_nil rfl rfl rfl) rfl rfl ?_
    refine XR_nil ?_
    refine X_else rfl ?_
    refine X_skip ?_
    refine X_seq ?_
    refine X_reg ?_
    refine XR_a (op_move rfl) rfl rfl ?_
    refine XR_wa (opl_call (head_spec st0 hrB hl hm ha) rfl (by kernel_rfl)) rfl rfl rfl ?_
    rintro _ hp ⟨n', w', a1, rfl, ha1, hok1, hbad1⟩
    refine XR_a (op_move rfl) rfl rfl ?_
    refine XR_a (op_extract rfl rfl) rfl rfl ?_
    refine XR_a (op_extract rfl rfl) rfl rfl ?_
    refine XR_a (op_extract rfl rfl) rfl rfl ?_
    refine XR_a (op_assign rfl) rfl rfl ?_
    refine XR_a (op_assign rfl) rfl rfl ?_
    refine XR_a (op_assign rfl) rfl rfl ?_
    refine XR_nil ?_
    refine X_seq ?_
    refine X_seq ?_
    refine X_reg ?_
    refine XR_a (op_move rfl) rfl rfl ?_
    refine XR_a (op_neq rfl rfl) rfl rfl ?_
    refine XR_as (.bool true) (congrArg Value.bool (decide_eq_true (by omega))) ?_
    refine XR_nil ?_
    refine X_then rfl ?_
    refine X_seq ?_
    refine X_reg ?_
    refine XR_a (op_move rfl) rfl rfl ?_
    refine XR_a (op_assign rfl) rfl rfl ?_
    refine XR_a (op_assign rfl) rfl rfl ?_
    refine XR_nil ?_
    refine X_ret (.cons (.tmp rfl) (.cons (.tmp rfl) .nil)) ?_
    rw [if_pos he] at hR
    rw [hR]
    exact ⟨_, a1, rfl, ha1, fun hh => absurd hh he, (hbad1 he).nilrow 3 1⟩
end Go.Bn
end

section
set_option linter.unusedVariables false
set_option linter.unusedSimpArgs false
namespace Go.Bn
structure Kls where
  num : Int
  bits : Int
  ext : Int
  deriving DecidableEq
def Kls.nil : Kls := ⟨0, 0, 0⟩
def bitsC (i : Nat) : Nat := if i < 4 then 0 else i / 2 - 1
def baseC : Nat → Nat
  | 0 => 0
  | i + 1 => baseC i + 2 ^ bitsC i
theorem two_lt (k : Nat) : 0 < 2 ^ k := Nat.pow_pos (by omega)
theorem baseC_even (n : Nat) : baseC (2 * (n + 1) + 2) = 2 * 2 ^ (n + 1) ∧ baseC (2 * (n + 1) + 3) = 3 * 2 ^ (n + 1) := by
  induction n with
  | zero => decide
  | succ n ih =>
    have b3 : bitsC (2 * (n + 1) + 3) = n + 1 := by unfold bitsC; rw [if_neg (by omega)]; omega
    have b2 : bitsC (2 * (n + 1 + 1) + 2) = n + 1 + 1 := by unfold bitsC; rw [if_neg (by omega)]; omega
    have e1 : baseC (2 * (n + 1 + 1) + 2) = baseC (2 * (n + 1) + 3) + 2 ^ (n + 1) := by
      rw [show 2 * (n + 1 + 1) + 2 = (2 * (n + 1) + 3) + 1 by omega, baseC, b3]
    have e2 : baseC (2 * (n + 1 + 1) + 3) = baseC (2 * (n + 1 + 1) + 2) + 2 ^ (n + 1 + 1) := by
      conv => lhs; rw [show 2 * (n + 1 + 1) + 3 = (2 * (n + 1 + 1) + 2) + 1 from rfl, baseC, b2]
    rw [ih.2] at e1
    refine ⟨by rw [e1, Nat.pow_succ 2 (n + 1)]; omega, by rw [e2, e1, Nat.pow_succ 2 (n + 1)]; omega⟩
theorem baseC_form (i : Nat) (h : 4 ≤ i) : baseC i = (2 + i % 2) * 2 ^ (i / 2 - 1) := by
  rcases (by omega : i % 2 = 0 ∨ i % 2 = 1) with h2 | h2
  · obtain ⟨n, rfl⟩ : ∃ n, i = 2 * (n + 1) + 2 := ⟨i / 2 - 2, by omega⟩
    rw [(baseC_even n).1, h2, show (2 * (n + 1) + 2) / 2 - 1 = n + 1 by omega]
  · obtain ⟨n, rfl⟩ : ∃ n, i = 2 * (n + 1) + 3 := ⟨i / 2 - 2, by omega⟩
    rw [(baseC_even n).2, h2, show (2 * (n + 1) + 3) / 2 - 1 = n + 1 by omega]
theorem baseC_small : ∀ i, i < 5 → baseC i = i := by decide
theorem baseC_lt (i : Nat) : baseC i < baseC (i + 1) := by
  rw [baseC]; have := two_lt (bitsC i); omega
theorem baseC_mono {i j : Nat} (h : i ≤ j) : baseC i ≤ baseC j := by
  induction j with
  | zero =>
    obtain rfl : i = 0 := by omega
    exact Nat.le_refl _
  | succ j ih =>
    rcases Nat.lt_or_ge j i with h1 | h1
    · obtain rfl : i = j + 1 := by omega
      exact Nat.le_refl _
    · have := ih h1; have := baseC_lt j; omega
def valC (c : Kls) : Option Nat :=
  if c.num < 0 ∨ 30 ≤ c.num then none
  else if c.bits ≠ bitsC c.num.toNat then none
  else if (2 : Int) ^ bitsC c.num.toNat ≤ c.ext then none
  else some (baseC c.num.toNat + c.ext.toNat)
theorem valC_some {c : Kls} {v : Nat} (h : valC c = some v) : 0 ≤ c.num ∧ c.num < 30 ∧ c.bits = bitsC c.num.toNat ∧ c.ext < (2 : Int) ^ bitsC c.num.toNat ∧ v = baseC c.num.toNat + c.ext.toNat := by
  unfold valC at h
  split at h
  · cases h
  · split at h
    · cases h
    · split at h
      · cases h
      · cases h
        rename_i a b d
        exact ⟨by omega, by omega, Decidable.not_not.1 b, by omega, rfl⟩
theorem valC_lt {c : Kls} {v : Nat} (h : valC c = some v) : v < 65536 := by
  obtain ⟨h1, h2, h3, h4, h5⟩ := valC_some h
  have hb : c.ext.toNat < 2 ^ bitsC c.num.toNat := by
    have : ((2 ^ bitsC c.num.toNat : Nat) : Int) = (2 : Int) ^ bitsC c.num.toNat := by rw [Int.natCast_pow]; rfl
    have := two_lt (bitsC c.num.toNat)
    omega
  have := baseC_mono (show c.num.toNat + 1 ≤ 30 by omega)
  rw [baseC, show baseC 30 = 65536 / 2 by decide] at this
  omega
structure Tok where
  byte : Int
  len : Int
  dist : Int
  deriving DecidableEq
def Tok.nil : Tok := ⟨0, 0, 0⟩
def Tok.right (t : Tok) : Prop := if t.len = 0 then t.dist = 0 else t.byte = 0 ∧ 3 ≤ t.len ∧ t.len ≤ 258 ∧ 1 ≤ t.dist ∧ t.dist ≤ 32768
instance (t : Tok) : Decidable t.right := by unfold Tok.right; infer_instance
structure Sy where
  a : Kls
  b : Kls
  m : Bool
  deriving DecidableEq
def Sy.nil : Sy := ⟨Kls.nil, Kls.nil, false⟩
def matchT (r : Sy) : Tok × Bool :=
  match valC ⟨r.a.num - 257, r.a.bits, r.a.ext⟩, valC r.b with
  | some x, some y => if (Tok.mk 0 (x + 3) (y + 1)).right then (Tok.mk 0 (x + 3) (y + 1), true) else (Tok.nil, false)
  | _, _ => (Tok.nil, false)
def joinT (r : Sy) : Tok × Bool :=
  if r.m = true then (if 257 ≤ r.a.num ∧ r.a.num < 273 then matchT r else (Tok.nil, false))
  else if 0 ≤ r.a.num ∧ r.a.num < 256 ∧ r = ⟨⟨r.a.num, 0, 0⟩, Kls.nil, false⟩ then (⟨r.a.num, 0, 0⟩, true)
  else (Tok.nil, false)
end Go.Bn
end

section
set_option linter.unusedVariables false
set_option linter.unusedSimpArgs false
namespace Go.Bn
noncomputable def clsT (ls : List Nat) (fr : Nat) (bs : List Bool) (a : Nat) : Kls × Nat × Nat :=
  if (takeC ls (bs.drop a)).2.2 ≠ 0 ∨ (takeC ls (bs.drop a)).1 < fr then (⟨(takeC ls (bs.drop a)).1, 0, 0⟩, a + (takeC ls (bs.drop a)).2.1, (takeC ls (bs.drop a)).2.2)
  else if bs.length - (a + (takeC ls (bs.drop a)).2.1) < bitsC ((takeC ls (bs.drop a)).1 - fr) then (Kls.nil, a + (takeC ls (bs.drop a)).2.1, 2)
  else (⟨(takeC ls (bs.drop a)).1, bitsC ((takeC ls (bs.drop a)).1 - fr), (numB bs (a + (takeC ls (bs.drop a)).2.1) (bitsC ((takeC ls (bs.drop a)).1 - fr)) : Nat)⟩, a + (takeC ls (bs.drop a)).2.1 + bitsC ((takeC ls (bs.drop a)).1 - fr), 0)
noncomputable def nextT (la lb : List Nat) (bs : List Bool) (a : Nat) : Tok × Nat × Bool × Nat :=
  if (clsT la 257 bs a).2.2 ≠ 0 ∨ (clsT la 257 bs a).1.num = 256 then (Tok.nil, (clsT la 257 bs a).2.1, true, (clsT la 257 bs a).2.2)
  else if 256 < (clsT la 257 bs a).1.num then
    if (clsT lb 0 bs (clsT la 257 bs a).2.1).2.2 ≠ 0 then (Tok.nil, (clsT lb 0 bs (clsT la 257 bs a).2.1).2.1, true, (clsT lb 0 bs (clsT la 257 bs a).2.1).2.2)
    else if (joinT ⟨(clsT la 257 bs a).1, (clsT lb 0 bs (clsT la 257 bs a).2.1).1, true⟩).2 = true then ((joinT ⟨(clsT la 257 bs a).1, (clsT lb 0 bs (clsT la 257 bs a).2.1).1, true⟩).1, (clsT lb 0 bs (clsT la 257 bs a).2.1).2.1, false, 0)
    else (Tok.nil, (clsT lb 0 bs (clsT la 257 bs a).2.1).2.1, true, 3)
  else if (joinT ⟨(clsT la 257 bs a).1, Kls.nil, false⟩).2 = true then ((joinT ⟨(clsT la 257 bs a).1, Kls.nil, false⟩).1, (clsT la 257 bs a).2.1, false, 0)
  else (Tok.nil, (clsT la 257 bs a).2.1, true, 3)
def Tok.size (t : Tok) : Nat := max 1 t.len.toNat
def castI (l : List Nat) : List Int := l.map fun n : Nat => (n : Int)
noncomputable def codesT (bs : List Bool) (a : Nat) : Nat × List Nat × List Nat × Nat :=
  if (takeR bs a (okR bs a)).2.2 ≠ 0 then ((takeR bs a (okR bs a)).2.2, [], [], 0)
  else if (takeR bs (takeR bs a (okR bs a)).2.1 (okR bs (takeR bs a (okR bs a)).2.1)).2.2 ≠ 0 then ((takeR bs (takeR bs a (okR bs a)).2.1 (okR bs (takeR bs a (okR bs a)).2.1)).2.2, [], [], 0)
  else if (takeR bs a (okR bs a)).1.length ≠ 273 ∨ (takeR bs (takeR bs a (okR bs a)).2.1 (okR bs (takeR bs a (okR bs a)).2.1)).1.length ≠ 30 then (3, [], [], 0)
  else if ¬ rightC (castI (takeR bs a (okR bs a)).1) ∨ ¬ rightC (castI (takeR bs (takeR bs a (okR bs a)).2.1 (okR bs (takeR bs a (okR bs a)).2.1)).1) then (13, [], [], 0)
  else (0, (takeR bs a (okR bs a)).1, (takeR bs (takeR bs a (okR bs a)).2.1 (okR bs (takeR bs a (okR bs a)).2.1)).1, (takeR bs (takeR bs a (okR bs a)).2.1 (okR bs (takeR bs a (okR bs a)).2.1)).2.1)
theorem castI_toNat (l : List Nat) : (castI l).map Int.toNat = l := cast_toNat l
structure CodesOk (bs : List Bool) (la lb : List Nat) (a : Nat) : Prop where
  oka : lensOK la
  okb : lensOK lb
  lena : la.length = 273
  lenb : lb.length = 30
theorem codesT_ok {bs : List Bool} {a : Nat} (h : (codesT bs a).1 = 0) : CodesOk bs (codesT bs a).2.1 (codesT bs a).2.2.1 a := by
  revert h
  unfold codesT
  obtain ⟨X, hX⟩ : ∃ X, takeR bs a (okR bs a) = X := ⟨_, rfl⟩
  rw [hX]
  obtain ⟨Y, hY⟩ : ∃ Y, takeR bs X.2.1 (okR bs X.2.1) = Y := ⟨_, rfl⟩
  rw [hY]
  split
  · intro h; exact absurd h ‹_›
  · split
    · intro h; exact absurd h ‹_›
    · split
      · intro h; cases h
      · split
        · intro h; cases h
        · rename_i h3 h4
          intro _
          have h5 : rightC (castI X.1) ∧ rightC (castI Y.1) := by
            constructor
            · exact Classical.byContradiction fun hn => h4 (.inl hn)
            · exact Classical.byContradiction fun hn => h4 (.inr hn)
          have k1 := h5.1.ok
          have k2 := h5.2.ok
          rw [castI_toNat] at k1 k2
          exact ⟨k1, k2, by simp only; omega, by simp only; omega⟩
theorem takeC_small {ls : List Nat} (hok : lensOK ls) (bs : List Bool) : (takeC ls bs).1 < ls.length ∨ (takeC ls bs).1 = 0 := by
  by_cases h : (takeC ls bs).2.2 = 0
  · obtain ⟨h1, _⟩ := takeC_sym hok h
    exact .inl h1
  · refine .inr ?_
    rw [takeC_S hok] at h ⊢
    unfold takeS at h ⊢
    cases hf : (qcodes ls).find? (matchQ bs) with
    | some c => rw [hf] at h; exact absurd rfl h
    | none => simp only; split <;> rfl
theorem clsT_num {ls : List Nat} {fr : Nat} {bs : List Bool} {a : Nat} (hok : lensOK ls) (hl : ls.length ≤ fr + 30) (hl2 : ls.length ≤ 320) : 0 ≤ (clsT ls fr bs a).1.num ∧ (clsT ls fr bs a).1.num < 320 ∧ 0 ≤ (clsT ls fr bs a).1.ext ∧ (clsT ls fr bs a).1.ext < 4294967296 := by
  have h1 : (takeC ls (bs.drop a)).1 < 320 := by
    have := hok.1
    rcases takeC_small hok (bs.drop a) with h | h <;> omega
  unfold clsT
  split
  · exact ⟨by simp only; omega, by simp only; omega, by simp only; omega, by simp only; omega⟩
  · split
    · exact ⟨by simp [Kls.nil], by simp [Kls.nil], by simp [Kls.nil], by simp [Kls.nil]⟩
    · rename_i h2 h3
      have hb : bitsC ((takeC ls (bs.drop a)).1 - fr) ≤ 13 := by
        have : (takeC ls (bs.drop a)).1 - fr < 30 := by
          have := hok.1
          rcases takeC_small hok (bs.drop a) with h | h <;> omega
        unfold bitsC; split <;> omega
      have hn := numB_lt bs (a + (takeC ls (bs.drop a)).2.1) (bitsC ((takeC ls (bs.drop a)).1 - fr))
      have : 2 ^ bitsC ((takeC ls (bs.drop a)).1 - fr) ≤ 2 ^ 13 := Nat.pow_le_pow_right (by omega) hb
      exact ⟨by simp only; omega, by simp only; omega, by simp only; omega, by simp only; omega⟩
theorem clsT_at {ls : List Nat} {fr : Nat} {bs : List Bool} {a : Nat} (hok : lensOK ls) (ha : a ≤ bs.length) : a ≤ (clsT ls fr bs a).2.1 ∧ (clsT ls fr bs a).2.1 ≤ bs.length ∧ ((clsT ls fr bs a).2.2 = 0 → a < (clsT ls fr bs a).2.1) := by
  have hle := takeC_le ls (bs.drop a)
  rw [List.length_drop] at hle
  have hpos := fun h => takeC_pos hok (bs := bs.drop a) h
  unfold clsT
  split
  · exact ⟨by simp only; omega, by simp only; omega, fun h => by simp only at h ⊢; have := hpos h; omega⟩
  · split
    · exact ⟨by simp only; omega, by simp only; omega, fun h => by cases h⟩
    · rename_i h1 h2
      have := hpos (by omega)
      exact ⟨by simp only; omega, by simp only; omega, fun _ => by simp only; omega⟩
theorem joinT_right {r : Sy} (h : (joinT r).2 = true) : (joinT r).1.right ∧ 0 ≤ (joinT r).1.byte ∧ (joinT r).1.byte < 256 := by
  unfold joinT at *
  split at h
  · rename_i hm
    split at h
    · rename_i hr
      rw [if_pos hm, if_pos hr]
      unfold matchT at *
      split at h
      · rename_i x y hx hy
        split at h
        · rename_i ht
          simp only [hx, hy, if_pos ht]
          exact ⟨ht, by simp, by simp⟩
        · cases h
      · cases h
    · cases h
  · split at h
    · rename_i hm hr
      rw [if_neg hm, if_pos hr]
      exact ⟨by unfold Tok.right; rw [if_pos rfl], hr.1, hr.2.1⟩
    · cases h
theorem nextT_at {la lb : List Nat} {bs : List Bool} {a : Nat} (oka : lensOK la) (okb : lensOK lb) (ha : a ≤ bs.length) :
    a ≤ (nextT la lb bs a).2.1 ∧ (nextT la lb bs a).2.1 ≤ bs.length ∧ ((nextT la lb bs a).2.2.1 = false → a < (nextT la lb bs a).2.1 ∧ (nextT la lb bs a).2.2.2 = 0 ∧ (nextT la lb bs a).1.right ∧ 0 ≤ (nextT la lb bs a).1.byte ∧ (nextT la lb bs a).1.byte < 256) := by
  obtain ⟨h1, h2, h3⟩ := clsT_at (fr := 257) oka ha
  obtain ⟨k1, k2, k3⟩ := clsT_at (fr := 0) okb h2
  unfold nextT
  split
  · exact ⟨h1, h2, fun h => by cases h⟩
  · split
    · split
      · exact ⟨by simp only; omega, k2, fun h => by cases h⟩
      · split
        · rename_i a1 a2 a3 a4
          exact ⟨by simp only; omega, k2, fun _ => ⟨by simp only; have := h3 (by omega); omega, rfl, joinT_right a4⟩⟩
        · exact ⟨by simp only; omega, k2, fun h => by cases h⟩
    · split
      · rename_i a1 a2 a3
        exact ⟨h1, h2, fun _ => ⟨h3 (by omega), rfl, joinT_right a3⟩⟩
      · exact ⟨h1, h2, fun h => by cases h⟩
theorem Tok.size_le {t : Tok} (h : t.right) : 1 ≤ t.size ∧ t.size ≤ 258 ∧ (t.size : Int) = max 1 t.len := by
  unfold Tok.right at h
  unfold Tok.size
  split at h <;> refine ⟨by omega, by omega, by omega⟩
theorem goT_at (ls : List Nat) (bs : List Bool) (n : Nat) : ∀ (f a : Nat) (l : List Nat), a ≤ bs.length → (goT ls bs n f a l).2.2 = 0 → a ≤ (goT ls bs n f a l).2.1 ∧ (goT ls bs n f a l).2.1 ≤ bs.length
  | 0, _, _, _, h => by cases h
  | f + 1, a, l, ha, h => by
    revert h
    rw [goT]
    split
    · exact fun _ => ⟨Nat.le_refl _, ha⟩
    · split
      · intro h; exact absurd h ‹_›
      · split
        · intro h; cases h
        · split
          · intro h; cases h
          · split
            · intro h; cases h
            · intro h
              have := goT_at ls bs n f _ _ (by omega) h
              omega
theorem takeR_at {bs : List Bool} {a : Nat} {ok : Bool} (h : (takeR bs a ok).2.2 = 0) (ha : a ≤ bs.length) : a ≤ (takeR bs a ok).2.1 ∧ (takeR bs a ok).2.1 ≤ bs.length := by
  revert h
  unfold takeR
  split
  · intro h; exact absurd h ‹_›
  · rename_i hh
    intro h
    have h85 : a + 85 ≤ bs.length := by
      unfold headE at hh
      refine Classical.byContradiction fun hn => ?_
      revert hh
      split
      · simp
      · split
        · simp
        · rw [if_pos (by omega)]; simp
    have := goT_at _ bs _ 321 (a + 85) [] h85 h
    omega
theorem codesT_le {bs : List Bool} (h : (codesT bs 0).1 = 0) : (codesT bs 0).2.2.2 ≤ bs.length := by
  revert h
  unfold codesT
  obtain ⟨X, hX⟩ : ∃ X, takeR bs 0 (okR bs 0) = X := ⟨_, rfl⟩
  have h1 := takeR_at (bs := bs) (a := 0) (ok := okR bs 0)
  rw [hX] at h1 ⊢
  obtain ⟨Y, hY⟩ : ∃ Y, takeR bs X.2.1 (okR bs X.2.1) = Y := ⟨_, rfl⟩
  have h2 := takeR_at (bs := bs) (a := X.2.1) (ok := okR bs X.2.1)
  rw [hY] at h2 ⊢
  split
  · intro h; exact absurd h ‹_›
  · split
    · intro h; exact absurd h ‹_›
    · split
      · intro h; cases h
      · split
        · intro h; cases h
        · intro _
          have g1 := h1 (by omega) (by omega)
          exact (h2 (by omega) g1.2).2
end Go.Bn
end

section
set_option linter.unusedVariables false
set_option linter.unusedSimpArgs false
namespace Go.Bn
theorem leV2 {l : List UInt8} {a : Nat} (h : a + 2 ≤ l.length) : leV ((l.drop a).take 2) = l[a].toNat + 256 * l[a + 1].toNat := by
  rw [List.drop_eq_getElem_cons (by omega), List.take_succ_cons, List.drop_eq_getElem_cons (by omega), List.take_succ_cons]
  simp [leV]
end Go.Bn
end

section
set_option linter.unusedVariables false
set_option linter.unusedSimpArgs false
namespace Go.Bn
abbrev Mv := Nat → List UInt8 → Nat × List UInt8 × Bool × Nat
structure MvOk (mv : Mv) (lim : Nat) (I : Nat → List UInt8 → Prop) : Prop where
  pre : ∀ a out, I a out → ∃ x, (mv a out).2.1 = out ++ x
  grow : ∀ a out, I a out → (mv a out).2.2.1 = false → out.length < (mv a out).2.1.length ∧ (mv a out).2.2.2 = 0 ∧ I (mv a out).1 (mv a out).2.1
  here : ∀ a out, I a out → out.length ≤ lim
  le : ∀ a out, I a out → (mv a out).2.1.length ≤ lim
inductive Giv (mv : Mv) : Nat → List UInt8 → List UInt8 → Nat → Prop
  | over {a : Nat} {out : List UInt8} (h : (mv a out).2.2.1 = true) : Giv mv a out (mv a out).2.1 (mv a out).2.2.2
  | more {a : Nat} {out gB : List UInt8} {gE : Nat} (h : (mv a out).2.2.1 = false) (g : Giv mv (mv a out).1 (mv a out).2.1 gB gE) : Giv mv a out gB gE
theorem Giv.det {mv : Mv} {a : Nat} {out gB gB' : List UInt8} {gE gE' : Nat} (g : Giv mv a out gB gE) (g' : Giv mv a out gB' gE') : gB = gB' ∧ gE = gE' := by
  induction g with
  | over h =>
    cases g' with
    | over h' => exact ⟨rfl, rfl⟩
    | more h' _ => rw [h] at h'; cases h'
  | more h _ ih =>
    cases g' with
    | over h' => rw [h] at h'; cases h'
    | more h' g' => exact ih g'
theorem Giv.pre {mv : Mv} {lim : Nat} {I : Nat → List UInt8 → Prop} (ok : MvOk mv lim I) {a : Nat} {out gB : List UInt8} {gE : Nat} (g : Giv mv a out gB gE) (hI : I a out) : (∃ x, gB = out ++ x) ∧ gB.length ≤ lim := by
  induction g with
  | over h => exact ⟨ok.pre _ _ hI, ok.le _ _ hI⟩
  | more h _ ih =>
    obtain ⟨⟨x, hx⟩, hl⟩ := ih (ok.grow _ _ hI h).2.2
    obtain ⟨y, hy⟩ := ok.pre _ _ hI
    exact ⟨⟨y ++ x, by rw [hx, hy, List.append_assoc]⟩, hl⟩
theorem Giv.all {mv : Mv} {lim : Nat} {I : Nat → List UInt8 → Prop} (ok : MvOk mv lim I) : ∀ (n a : Nat) (out : List UInt8), lim - out.length ≤ n → I a out → ∃ gB gE, Giv mv a out gB gE
  | n, a, out, hn, hI => by
    cases hh : (mv a out).2.2.1 with
    | true => exact ⟨_, _, .over hh⟩
    | false =>
      obtain ⟨h1, _, h2⟩ := ok.grow _ _ hI hh
      have h3 := ok.le _ _ hI
      cases n with
      | zero => omega
      | succ n =>
        obtain ⟨gB, gE, g⟩ := Giv.all ok n _ _ (by omega) h2
        exact ⟨gB, gE, .more hh g⟩
def copyT : Nat → Nat → List UInt8 → List UInt8
  | 0, _, out => out
  | n + 1, d, out => copyT n d (out ++ [out.getD (out.length - d) 0])
theorem copyT_length : ∀ (n d : Nat) (out : List UInt8), (copyT n d out).length = out.length + n
  | 0, _, _ => rfl
  | n + 1, d, out => by rw [copyT, copyT_length n d]; simp; omega
theorem copyT_pre : ∀ (n d : Nat) (out : List UInt8), ∃ x, copyT n d out = out ++ x
  | 0, _, out => ⟨[], by simp [copyT]⟩
  | n + 1, d, out => by
    obtain ⟨x, hx⟩ := copyT_pre n d (out ++ [out.getD (out.length - d) 0])
    exact ⟨_, by rw [copyT, hx, List.append_assoc]⟩
def expT (t : Tok) (out : List UInt8) : List UInt8 := if t.len = 0 then out ++ [UInt8.ofNat t.byte.toNat] else copyT t.len.toNat t.dist.toNat out
theorem expT_length {t : Tok} (h : t.right) (out : List UInt8) : (expT t out).length = out.length + t.size := by
  unfold Tok.right at h
  unfold expT Tok.size
  split
  · rename_i h0; simp [h0]
  · rename_i h0
    rw [if_neg h0] at h
    rw [copyT_length]; omega
theorem expT_pre (t : Tok) (out : List UInt8) : ∃ x, expT t out = out ++ x := by
  unfold expT
  split
  · exact ⟨_, rfl⟩
  · exact copyT_pre _ _ _
def endE (bs : List Bool) (size a n : Nat) : Nat := if n < size then 5 else if 8 ≤ bs.length - a ∨ numB bs a 8 ≠ 0 then 3 else 0
noncomputable def mvP (la lb : List Nat) (bs : List Bool) (size : Nat) : Mv := fun a out =>
  if (nextT la lb bs a).2.2.1 = true then ((nextT la lb bs a).2.1, out, true, if (nextT la lb bs a).2.2.2 ≠ 0 then (nextT la lb bs a).2.2.2 else endE bs size (nextT la lb bs a).2.1 out.length)
  else if (out.length : Int) < (nextT la lb bs a).1.dist then ((nextT la lb bs a).2.1, out, true, 3)
  else if size - out.length < (nextT la lb bs a).1.size then ((nextT la lb bs a).2.1, out, true, 5)
  else ((nextT la lb bs a).2.1, expT (nextT la lb bs a).1 out, false, 0)
theorem mvP_ok {la lb : List Nat} {bs : List Bool} {size : Nat} (oka : lensOK la) (okb : lensOK lb) : MvOk (mvP la lb bs size) size (fun a out => a ≤ bs.length ∧ out.length ≤ size) := by
  have hn := fun a ha => nextT_at (la := la) (lb := lb) (bs := bs) (a := a) oka okb ha
  refine ⟨fun a out hI => ?_, fun a out hI h => ?_, fun a out hI => hI.2, fun a out hI => ?_⟩
  · unfold mvP
    split
    · exact ⟨[], by simp⟩
    · split
      · exact ⟨[], by simp⟩
      · split
        · exact ⟨[], by simp⟩
        · exact expT_pre _ _
  · unfold mvP at h ⊢
    split at h
    · cases h
    · rename_i h1
      rw [if_neg h1]
      split at h
      · cases h
      · rename_i h2
        rw [if_neg h2]
        split at h
        · cases h
        · rename_i h3
          rw [if_neg h3]
          obtain ⟨k1, k2, k3⟩ := hn a hI.1
          obtain ⟨k4, k5, k6, _⟩ := k3 (by simpa using h1)
          have k7 := expT_length k6 out
          have k8 := Tok.size_le k6
          exact ⟨by simp only; omega, rfl, k2, by simp only; omega⟩
  · unfold mvP
    split
    · exact hI.2
    · rename_i h1
      split
      · exact hI.2
      · split
        · exact hI.2
        · rename_i h3
          obtain ⟨k1, k2, k3⟩ := hn a hI.1
          obtain ⟨k4, k5, k6, _⟩ := k3 (by simpa using h1)
          have k7 := expT_length k6 out
          simp only; omega
def mvS (l : List UInt8) (size : Nat) : Mv := fun a out =>
  if l.length < a + 2 then (a, out, true, 2)
  else if l.length < a + 2 + leV ((l.drop a).take 2) then (a, out, true, 2)
  else if size - out.length < leV ((l.drop a).take 2) then (a, out, true, 5)
  else if 0 < leV ((l.drop a).take 2) then (a + 2 + leV ((l.drop a).take 2), out ++ (l.drop (a + 2)).take (leV ((l.drop a).take 2)), false, 0)
  else if a + 2 < l.length then (a, out, true, 3)
  else if out.length < size then (a, out, true, 5)
  else (a, out, true, 0)
theorem mvS_ok {l : List UInt8} {size : Nat} : MvOk (mvS l size) size (fun a out => a ≤ l.length ∧ out.length ≤ size) := by
  refine ⟨fun a out hI => ?_, fun a out hI h => ?_, fun a out hI => hI.2, fun a out hI => ?_⟩
  · unfold mvS
    repeat' split
    all_goals first | exact ⟨[], (List.append_nil _).symm⟩ | exact ⟨_, rfl⟩
  · unfold mvS at h ⊢
    repeat' split at h
    all_goals first | (cases h; done) | skip
    rename_i h1 h2 h3 h4
    rw [if_neg h1, if_neg h2, if_neg h3, if_pos h4]
    refine ⟨?_, rfl, by simp only; omega, ?_⟩ <;> simp only [List.length_append, List.length_take, List.length_drop] <;> omega
  · unfold mvS
    repeat' split
    all_goals first | exact hI.2 | (simp only [List.length_append, List.length_take, List.length_drop]; omega)
def mvA (l : List UInt8) : Mv := fun a out => (a, out ++ l, true, 0)
theorem mvA_ok (l : List UInt8) : MvOk (mvA l) l.length (fun _ out => out = []) := by
  refine ⟨fun a out _ => ⟨l, rfl⟩, fun a out _ h => (by cases h), fun a out h => by rw [h]; simp, fun a out h => by rw [h]; simp [mvA]⟩
end Go.Bn
end

section
set_option linter.unusedVariables false
set_option linter.unusedSimpArgs false
set_option maxHeartbeats 4000000
set_option maxRecDepth 20000
namespace Go.Bn
open Go Proofs
@[reducible] def clsV (c : Kls) : List Value := [.int .i64 c.num, .int .i64 c.bits, .int .u32 c.ext]
@[reducible] def tokV (t : Tok) : List Value := [.int .u8 t.byte, .int .i64 t.len, .int .i64 t.dist]
@[reducible] def syV (r : Sy) : List Value := [.int .i64 r.a.num, .int .i64 r.a.bits, .int .u32 r.a.ext, .int .i64 r.b.num, .int .i64 r.b.bits, .int .u32 r.b.ext, .bool r.m]
theorem clsV_one (d : Kls) : ∀ u ∈ clsV d, Value.one u = true := by
  intro u hu; simp [clsV] at hu; rcases hu with rfl | rfl | rfl <;> rfl
theorem tokV_one (d : Tok) : ∀ u ∈ tokV d, Value.one u = true := by
  intro u hu; simp [tokV] at hu; rcases hu with rfl | rfl | rfl <;> rfl
theorem syV_one (d : Sy) : ∀ u ∈ syV d, Value.one u = true := by
  intro u hu; simp [syV] at hu; rcases hu with rfl | rfl | rfl | rfl | rfl | rfl | rfl <;> rfl
theorem eqL_sy (a b : Sy) : eqL (syV a) (syV b) = decide (a = b) := by
  obtain ⟨⟨_, _, _⟩, ⟨_, _, _⟩, _⟩ := a
  obtain ⟨⟨_, _, _⟩, ⟨_, _, _⟩, _⟩ := b
  rw [Bool.eq_iff_iff]; simp [eqL, eqv, and_assoc]
def baseP (i : Int) : Int × Int × Bool := if i < 0 ∨ 30 ≤ i then (0, 0, false) else (baseC i.toNat, bitsC i.toNat, true)
theorem bits14 {i : Nat} (h : i < 30) : bitsC i ≤ 13 := by unfold bitsC; split <;> omega
theorem pow13 {k : Nat} (h : k ≤ 13) : 2 ^ k ≤ 8192 := Nat.pow_le_pow_right (by omega) h
theorem sbase_spec (v : Int) (h0 : Heap) : Ret Try.prog 136 [.int .i64 v] h0 fun r h' => r = retVal [.int .i64 (baseP v).1, .int .i64 (baseP v).2.1, .bool (baseP v).2.2] ∧ h0 = h' := by
  refine ret_of_X Try.func136 rfl rfl fun w0 hw0 => ?_
  simp only [argE, Nat.zero_add, Nat.reduceAdd]
  refine X_seq ?_
  refine X_reg ?_
  refine XR_a (op_assign rfl) rfl rfl ?_
  refine XR_a (op_assign rfl) rfl rfl ?_
  refine XR_a (op_assign rfl) rfl rfl ?_
  refine XR_nil ?_
  refine X_seq ?_
  refine X_block ?_
  refine X_seq ?_
  refine X_reg ?_
  refine XR_a (op_move rfl) rfl rfl ?_
  refine XR_a (op_lss rfl rfl) rfl rfl ?_
  refine XR_a (op_move rfl) rfl rfl ?_
  refine XR_if 9 rfl (fun h => ?_) (fun h => ?_)
  · refine XR_no rfl rfl ?_
    refine XR_no rfl rfl ?_
    refine XR_a (op_pick_t rfl rfl) rfl rfl ?_
    refine XR_a (op_assign rfl) rfl rfl ?_
    refine XR_nil ?_
    refine X_then rfl ?_
    refine X_seq ?_
    refine X_reg ?_
    refine XR_a (op_assign rfl) rfl rfl ?_
    refine XR_a (op_assign rfl) rfl rfl ?_
    refine XR_a (op_assign rfl) rfl rfl ?_
    refine XR_nil ?_
    refine X_ret (.cons (.tmp rfl) (.cons (.tmp rfl) (.cons (.tmp rfl) .nil))) ?_
    have e : baseP v = (0, 0, false) := by unfold baseP; rw [if_pos (by omega)]
    rw [e]
    exact ⟨rfl, rfl⟩
  · refine XR_a (op_move rfl) rfl rfl ?_
    refine XR_a (op_geq rfl rfl) rfl rfl ?_
    refine XR_a (op_pick_f rfl rfl) rfl rfl ?_
    refine XR_a (op_assign rfl) rfl rfl ?_
    refine XR_nil ?_
    refine X_if rfl (fun h => ?_) (fun h => ?_)
    · refine X_seq ?_
      refine X_reg ?_
      refine XR_a (op_assign rfl) rfl rfl ?_
      refine XR_a (op_assign rfl) rfl rfl ?_
      refine XR_a (op_assign rfl) rfl rfl ?_
      refine XR_nil ?_
      refine X_ret (.cons (.tmp rfl) (.cons (.tmp rfl) (.cons (.tmp rfl) .nil))) ?_
      have e : baseP v = (0, 0, false) := by unfold baseP; rw [if_pos (by omega)]
      rw [e]
      exact ⟨rfl, rfl⟩
    · refine X_seq ?_
      refine X_reg ?_
      refine XR_a (op_move rfl) rfl rfl ?_
      refine XR_a (op_lss rfl rfl) rfl rfl ?_
      refine XR_a (op_assign rfl) rfl rfl ?_
      refine XR_nil ?_
      refine X_if rfl (fun h => ?_) (fun h => ?_)
      · obtain ⟨x, rfl⟩ : ∃ x : Nat, v = x := ⟨v.toNat, by omega⟩
        have e : baseP (x : Int) = ((x : Int), 0, true) := by
          unfold baseP; rw [if_neg (by omega), Int.toNat_natCast, baseC_small _ (by omega)]
          unfold bitsC; rw [if_pos (by omega)]; rfl
        rw [e]
        refine X_seq ?_
        refine X_reg ?_
        refine XR_a (op_move rfl) rfl rfl ?_
        refine XR_a (op_assign rfl) rfl rfl ?_
        refine XR_a (op_assign rfl) rfl rfl ?_
        refine XR_a (op_assign rfl) rfl rfl ?_
        refine XR_nil ?_
        refine X_ret (.cons (.tmp rfl) (.cons (.tmp rfl) (.cons (.tmp rfl) .nil))) ?_
        exact ⟨rfl, rfl⟩
      · obtain ⟨x, rfl⟩ : ∃ x : Nat, v = x := ⟨v.toNat, by omega⟩
        have e : baseP (x : Int) = ((((2 + x % 2) * 2 ^ (x / 2 - 1) : Nat) : Int), ((x / 2 - 1 : Nat) : Int), true) := by
          unfold baseP; rw [if_neg (by omega), Int.toNat_natCast, baseC_form _ (by omega)]
          unfold bitsC; rw [if_neg (by omega)]
        rw [e]
        have hk : x / 2 - 1 ≤ 13 := by omega
        have hp := pow13 hk
        refine X_skip ?_
        refine X_blk ?_
        refine X_seq ?_
        refine X_reg ?_
        refine XR_a (op_move rfl) rfl rfl ?_
        first | refine XR_a (op_quoN (n := 2) rfl rfl (by omega) (by simp only [inK]; omega)) rfl rfl ?_ | refine XR_a (op_quoI rfl rfl (by omega) (by omega) (by simp only [inK]; omega)) rfl rfl ?_ | refine XR_a (op_quo rfl rfl (by omega)) rfl rfl ?_
        refine XR_a (op_subN (m := x / 2) (n := 1) rfl rfl (by omega) (by simp only [inK]; omega)) rfl rfl ?_
        have hx2 : 2 + x % 2 ≤ 3 := by omega
        generalize x / 2 - 1 = k at *
        refine XR_a (op_assign rfl) rfl rfl ?_
        refine XR_nil ?_
        refine X_seq ?_
        refine X_reg ?_
        refine XR_a (op_move rfl) rfl rfl ?_
        first | refine XR_a (op_remN (n := 2) rfl rfl (by omega)) rfl rfl ?_ | refine XR_a (op_remI rfl rfl (by omega) (by omega)) rfl rfl ?_ | refine XR_a (op_rem rfl rfl (by omega)) rfl rfl ?_
        first | refine XR_a (op_addN (m := 2) rfl rfl (by simp only [inK]; omega)) rfl rfl ?_ | refine XR_a (op_addI rfl rfl (by simp only [inK]; omega)) rfl rfl ?_ | refine XR_a (op_add rfl rfl) rfl rfl ?_
        refine XR_a (op_move rfl) rfl rfl ?_
        have hb : (2 + x % 2) * 2 ^ k ≤ 3 * 8192 := Nat.mul_le_mul hx2 hp
        refine XR_a (op_shlC (m := 2 + x % 2) k rfl rfl (by simp only [IntKind.bits]; omega) (by simp only [inK]; omega)) rfl rfl ?_
        refine XR_a (op_move rfl) rfl rfl ?_
        refine XR_a (op_assign rfl) rfl rfl ?_
        refine XR_a (op_assign rfl) rfl rfl ?_
        refine XR_a (op_assign rfl) rfl rfl ?_
        refine XR_nil ?_
        refine X_ret (.cons (.tmp rfl) (.cons (.tmp rfl) (.cons (.tmp rfl) .nil))) ?_
        exact ⟨rfl, rfl⟩
theorem sbase_yes {v : Int} {i : Nat} (hi : v = i) (h : i < 30) (h0 : Heap) : Ret Try.prog 136 [.int .i64 v] h0 fun r h' => r = retVal [.int .i64 (baseC i : Nat), .int .i64 (bitsC i : Nat), .bool true] ∧ h0 = h' := by
  have e := sbase_spec v h0
  rw [show baseP v = ((baseC i : Int), (bitsC i : Int), true) by unfold baseP; rw [if_neg (by omega), hi, Int.toNat_natCast]] at e
  exact e
theorem sbase_no {v : Int} (h : v < 0 ∨ 30 ≤ v) (h0 : Heap) : Ret Try.prog 136 [.int .i64 v] h0 fun r h' => r = retVal [.int .i64 0, .int .i64 0, .bool false] ∧ h0 = h' := by
  have e := sbase_spec v h0
  rw [show baseP v = (0, 0, false) by unfold baseP; rw [if_pos h]] at e
  exact e
def valP (c : Kls) : Int × Bool := match valC c with
  | some v => ((v : Int), true)
  | none => (0, false)
theorem valP_some {c : Kls} {v : Nat} (h : valC c = some v) : valP c = ((v : Int), true) := by unfold valP; rw [h]
theorem valP_none {c : Kls} (h : valC c = none) : valP c = (0, false) := by unfold valP; rw [h]
theorem valC_none1 {c : Kls} (h : c.num < 0 ∨ 30 ≤ c.num) : valC c = none := by unfold valC; rw [if_pos h]
theorem valC_none2 {c : Kls} {i : Nat} (hi : c.num = i) (h : c.bits ≠ bitsC i) : valC c = none := by
  unfold valC
  split
  · rfl
  · rw [if_pos (by rw [hi]; exact h)]
theorem valC_none3 {c : Kls} {i e : Nat} (hi : c.num = i) (he : c.ext = e) (h : 2 ^ bitsC i ≤ e) : valC c = none := by
  unfold valC
  split
  · rfl
  · split
    · rfl
    · have hp : ((2 ^ bitsC i : Nat) : Int) = (2 : Int) ^ bitsC i := by rw [Int.natCast_pow]; rfl
      rw [if_pos (by rw [hi, he, Int.toNat_natCast, ← hp]; omega)]
theorem valC_yes {c : Kls} {i e : Nat} (hi : c.num = i) (h30 : i < 30) (hb : c.bits = bitsC i) (he : c.ext = e) (h : e < 2 ^ bitsC i) : valC c = some (baseC i + e) := by
  have hp : ((2 ^ bitsC i : Nat) : Int) = (2 : Int) ^ bitsC i := by rw [Int.natCast_pow]; rfl
  unfold valC
  rw [if_neg (by omega), hi, Int.toNat_natCast, if_neg (by rw [hb]; simp), if_neg (by rw [he, ← hp]; omega), he, Int.toNat_natCast]
theorem base30 {i : Nat} (h : i < 30) : baseC i + 2 ^ bitsC i ≤ 32768 := by
  have := baseC_mono (show i + 1 ≤ 30 by omega)
  rw [baseC, show baseC 30 = 32768 by decide] at this
  exact this
theorem sval_spec {c : Kls} (hx : 0 ≤ c.ext ∧ c.ext < 4294967296) (h0 : Heap) : Ret Try.prog 171 [.agg #[.int .i64 c.num, .int .i64 c.bits, .int .u32 c.ext]] h0 fun r h' => r = retVal [.int .i64 (valP c).1, .bool (valP c).2] ∧ Ext h0 h' := by
  refine ret_of_X Try.func171 rfl rfl fun w0 hw0 => ?_
  simp only [argE, Nat.zero_add, Nat.reduceAdd]
  have st := St.start h0
  refine X_seq ?_
  refine X_reg ?_
  refine XR_wa (opl_bx rfl rfl) rfl rfl rfl ?_
  rintro _ hp ⟨p, rfl, hnew⟩
  have st := st.new hnew
  refine XR_a (op_assign rfl) rfl rfl ?_
  refine XR_a (op_assign rfl) rfl rfl ?_
  refine XR_nil ?_
  refine X_seq ?_
  refine X_reg ?_
  first | refine XR_a (op_field0 rfl rfl) rfl rfl ?_ | refine XR_a (op_fieldn rfl rfl) rfl rfl ?_
  by_cases hr : c.num < 0 ∨ 30 ≤ c.num
  · refine XR_a (op_ld (by first | assumption | exact st.cell 0 rfl rfl | exact st.cell 1 rfl rfl | exact st.cell 2 rfl rfl | exact st.cell 3 rfl rfl) rfl rfl rfl) rfl rfl ?_
    refine XR_wa (opl_call (sbase_no hr _) rfl (by kernel_rfl)) rfl rfl rfl ?_
    rintro _ _ ⟨rfl, rfl⟩
    refine XR_a (op_move rfl) rfl rfl ?_
    refine XR_a (op_extract rfl rfl) rfl rfl ?_
    refine XR_a (op_extract rfl rfl) rfl rfl ?_
    refine XR_a (op_extract rfl rfl) rfl rfl ?_
    refine XR_a (op_assign rfl) rfl rfl ?_
    refine XR_a (op_assign rfl) rfl rfl ?_
    refine XR_a (op_assign rfl) rfl rfl ?_
    refine XR_nil ?_
    refine X_seq ?_
    refine X_seq ?_
    refine X_reg ?_
    refine XR_a (op_move rfl) rfl rfl ?_
    first | refine XR_a (op_notd rfl) rfl rfl ?_ | refine XR_a (op_not rfl) rfl rfl ?_
    refine XR_a (op_move rfl) rfl rfl ?_
    refine XR_no rfl rfl ?_
    refine XR_no rfl rfl ?_
    refine XR_no rfl rfl ?_
    refine XR_no rfl rfl ?_
    refine XR_a (op_pick_t rfl rfl) rfl rfl ?_
    refine XR_a (op_move rfl) rfl rfl ?_
    refine XR_no rfl rfl ?_
    refine XR_no rfl rfl ?_
    refine XR_no rfl rfl ?_
    refine XR_no rfl rfl ?_
    refine XR_no rfl rfl ?_
    refine XR_a (op_pick_t rfl rfl) rfl rfl ?_
    refine XR_nil ?_
    refine X_then rfl ?_
    refine X_seq ?_
    refine X_reg ?_
    refine XR_a (op_assign rfl) rfl rfl ?_
    refine XR_a (op_assign rfl) rfl rfl ?_
    refine XR_nil ?_
    refine X_ret (.cons (.tmp rfl) (.cons (.tmp rfl) .nil)) ?_
    rw [valP_none (valC_none1 hr)]
    exact ⟨rfl, st.low⟩
  · obtain ⟨i, hi⟩ : ∃ i : Nat, c.num = i := ⟨c.num.toNat, by omega⟩
    obtain ⟨e, he⟩ : ∃ e : Nat, c.ext = e := ⟨c.ext.toNat, by omega⟩
    have h30 : i < 30 := by omega
    have hk := bits14 h30
    have hp := pow13 hk
    have hp0 := two_lt (bitsC i)
    have hbase := base30 h30
    refine XR_a (op_ld (by first | assumption | exact st.cell 0 rfl rfl | exact st.cell 1 rfl rfl | exact st.cell 2 rfl rfl | exact st.cell 3 rfl rfl) rfl rfl rfl) rfl rfl ?_
    refine XR_wa (opl_call (sbase_yes hi h30 _) rfl (by kernel_rfl)) rfl rfl rfl ?_
    rintro _ _ ⟨rfl, rfl⟩
    refine XR_a (op_move rfl) rfl rfl ?_
    refine XR_a (op_extract rfl rfl) rfl rfl ?_
    refine XR_a (op_extract rfl rfl) rfl rfl ?_
    refine XR_a (op_extract rfl rfl) rfl rfl ?_
    refine XR_a (op_assign rfl) rfl rfl ?_
    refine XR_a (op_assign rfl) rfl rfl ?_
    refine XR_a (op_assign rfl) rfl rfl ?_
    refine XR_nil ?_
    refine X_seq ?_
    refine X_seq ?_
    refine X_reg ?_
    refine XR_a (op_move rfl) rfl rfl ?_
    first | refine XR_a (op_notd rfl) rfl rfl ?_ | refine XR_a (op_not rfl) rfl rfl ?_
    refine XR_a (op_move rfl) rfl rfl ?_
    refine XR_a (op_move rfl) rfl rfl ?_
    first | refine XR_a (op_field0 rfl rfl) rfl rfl ?_ | refine XR_a (op_fieldn rfl rfl) rfl rfl ?_
    refine XR_a (op_ld (by first | assumption | exact st.cell 0 rfl rfl | exact st.cell 1 rfl rfl | exact st.cell 2 rfl rfl | exact st.cell 3 rfl rfl) rfl rfl rfl) rfl rfl ?_
    refine XR_a (op_neq rfl rfl) rfl rfl ?_
    refine XR_a (op_pick_f rfl rfl) rfl rfl ?_
    refine XR_a (op_move rfl) rfl rfl ?_
    refine XR_if 22 rfl (fun h => ?_) (fun h => ?_)
    · refine XR_no rfl rfl ?_
      refine XR_no rfl rfl ?_
      refine XR_no rfl rfl ?_
      refine XR_no rfl rfl ?_
      refine XR_no rfl rfl ?_
      refine XR_a (op_pick_t rfl rfl) rfl rfl ?_
      refine XR_nil ?_
      refine X_then rfl ?_
      refine X_seq ?_
      refine X_reg ?_
      refine XR_a (op_assign rfl) rfl rfl ?_
      refine XR_a (op_assign rfl) rfl rfl ?_
      refine XR_nil ?_
      refine X_ret (.cons (.tmp rfl) (.cons (.tmp rfl) .nil)) ?_
      rw [valP_none (valC_none2 hi (fun hh => h (by rw [hh])))]
      exact ⟨rfl, st.low⟩
    · first | refine XR_a (op_field0 rfl rfl) rfl rfl ?_ | refine XR_a (op_fieldn rfl rfl) rfl rfl ?_
      refine XR_a (op_ld (by first | assumption | exact st.cell 0 rfl rfl | exact st.cell 1 rfl rfl | exact st.cell 2 rfl rfl | exact st.cell 3 rfl rfl) rfl rfl rfl) rfl rfl ?_
      refine XR_a (op_move rfl) rfl rfl ?_
      rw [he]
      refine XR_a (op_shrA (m := e) (bitsC i) rfl rfl (by simp only [IntKind.bits]; omega)) rfl rfl ?_
      refine XR_a (op_neq rfl rfl) rfl rfl ?_
      refine XR_a (op_pick_f rfl rfl) rfl rfl ?_
      refine XR_nil ?_
      refine X_if rfl (fun h => ?_) (fun h => ?_)
      · have hge : 2 ^ bitsC i ≤ e := by
          rcases Nat.lt_or_ge e (2 ^ bitsC i) with hlt | hge
          · exact absurd (by rw [Nat.div_eq_of_lt hlt]; rfl) h
          · exact hge
        refine X_seq ?_
        refine X_reg ?_
        refine XR_a (op_assign rfl) rfl rfl ?_
        refine XR_a (op_assign rfl) rfl rfl ?_
        refine XR_nil ?_
        refine X_ret (.cons (.tmp rfl) (.cons (.tmp rfl) .nil)) ?_
        rw [valP_none (valC_none3 hi he hge)]
        exact ⟨rfl, st.low⟩
      · have hlt : e < 2 ^ bitsC i := by
          rcases Nat.lt_or_ge e (2 ^ bitsC i) with hlt | hge
          · exact hlt
          · have : 0 < e / 2 ^ bitsC i := Nat.div_pos hge hp0
            omega
        have hbb : c.bits = bitsC i := by omega
        rw [valP_some (valC_yes hi h30 hbb he hlt)]
        refine X_skip ?_
        refine X_seq ?_
        refine X_reg ?_
        refine XR_a (op_move rfl) rfl rfl ?_
        first | refine XR_a (op_field0 rfl rfl) rfl rfl ?_ | refine XR_a (op_fieldn rfl rfl) rfl rfl ?_
        refine XR_a (op_ld (st.cell 0 (i := 2) rfl rfl) rfl rfl rfl) rfl rfl ?_
        first | refine XR_a (op_convI rfl rfl (by simp only [inK]; omega)) rfl rfl ?_ | refine XR_a (op_conv rfl rfl) rfl rfl ?_
        refine XR_as (.int .i64 (e : Int)) (by rw [he]) ?_
        first | refine XR_a (op_addN rfl rfl (by simp only [inK]; omega)) rfl rfl ?_ | refine XR_a (op_addI rfl rfl (by simp only [inK]; omega)) rfl rfl ?_ | refine XR_a (op_add rfl rfl) rfl rfl ?_
        refine XR_a (op_assign rfl) rfl rfl ?_
        refine XR_a (op_assign rfl) rfl rfl ?_
        refine XR_nil ?_
        refine X_ret (.cons (.tmp rfl) (.cons (.tmp rfl) .nil)) ?_
        exact ⟨rfl, st.low⟩
theorem bits_ref {v : Int} (hv : v ≤ 1000) (h0 : Heap) : Ret Try.prog 123 [.int .i64 v] h0 fun r h' => r = .int .i64 (bitsC v.toNat : Nat) ∧ h0 = h' := by
  refine ret_of_X Try.func123 rfl rfl fun w0 hw0 => ?_
  simp only [argE, Nat.zero_add, Nat.reduceAdd]
  refine X_seq ?_
  refine X_reg ?_
  refine XR_a (op_assign rfl) rfl rfl ?_
  refine XR_nil ?_
  refine X_seq ?_
  refine X_seq ?_
  refine X_reg ?_
  refine XR_a (op_move rfl) rfl rfl ?_
  refine XR_a (op_lss rfl rfl) rfl rfl ?_
  refine XR_nil ?_
  refine X_if rfl (fun h => ?_) (fun h => ?_)
  · refine X_seq ?_
    refine X_reg ?_
    refine XR_a (op_assign rfl) rfl rfl ?_
    refine XR_nil ?_
    refine X_ret (.cons (.tmp rfl) .nil) ?_
    have e : bitsC v.toNat = 0 := by unfold bitsC; rw [if_pos (by omega)]
    rw [e]
    exact ⟨rfl, rfl⟩
  · obtain ⟨x, rfl⟩ : ∃ x : Nat, v = x := ⟨v.toNat, by omega⟩
    have e : bitsC x = x / 2 - 1 := by unfold bitsC; rw [if_neg (by omega)]
    rw [Int.toNat_natCast, e]
    refine X_skip ?_
    refine X_seq ?_
    refine X_reg ?_
    refine XR_a (op_move rfl) rfl rfl ?_
    first | refine XR_a (op_quoN (n := 2) rfl rfl (by omega) (by simp only [inK]; omega)) rfl rfl ?_ | refine XR_a (op_quoI rfl rfl (by omega) (by omega) (by simp only [inK]; omega)) rfl rfl ?_ | refine XR_a (op_quo rfl rfl (by omega)) rfl rfl ?_
    first | refine XR_a (op_subN (n := 1) rfl rfl (by omega) (by simp only [inK]; omega)) rfl rfl ?_ | refine XR_a (op_subI rfl rfl (by simp only [inK]; omega)) rfl rfl ?_ | refine XR_a (op_sub rfl rfl) rfl rfl ?_
    refine XR_a (op_assign rfl) rfl rfl ?_
    refine XR_nil ?_
    refine X_ret (.cons (.tmp rfl) .nil) ?_
    exact ⟨rfl, rfl⟩
theorem base_ref {n : Nat} (hn : n ≤ 30) (h0 : Heap) : Ret Try.prog 122 [.int .i64 (n : Int)] h0 fun r h' => r = .int .i64 (baseC n : Nat) ∧ h0 = h' := by
  refine ret_of_X Try.func122 rfl rfl fun w0 hw0 => ?_
  simp only [argE, Nat.zero_add, Nat.reduceAdd]
  refine X_seq ?_
  refine X_reg ?_
  refine XR_a (op_assign rfl) rfl rfl ?_
  refine XR_nil ?_
  refine X_seq ?_
  refine X_reg ?_
  refine XR_a (op_assign rfl) rfl rfl ?_
  refine XR_nil ?_
  refine X_seq ?_
  refine X_seq ?_
  refine X_reg ?_
  refine XR_a (op_assign rfl) rfl rfl ?_
  refine XR_nil ?_
  refine X_block ?_
  refine X_loop (fun i => n - i) (fun i => [(0, .int .i64 (n : Int)), (3, .int .i64 (baseC i : Nat)), (4, .int .i64 (i : Int))])
    (fun (i : Nat) hp => h0 = hp ∧ i ≤ n) 0 (.cons rfl (.cons rfl (.cons rfl (.nil _)))) ⟨rfl, by omega⟩ ?_
  rintro i hp ⟨rfl, hi⟩
  refine X_seq ?_
  refine X_seq ?_
  refine X_reg ?_
  refine XR_a (op_move rfl) rfl rfl ?_
  refine XR_a (op_move rfl) rfl rfl ?_
  refine XR_a (op_lss rfl rfl) rfl rfl ?_
  refine XR_nil ?_
  refine X_if rfl (fun h => ?_) (fun h => ?_)
  · have hin : i < n := by omega
    have h30 : i < 30 := by omega
    have hk := bits14 h30
    have hp13 := pow13 hk
    have hbase := base30 h30
    have hp0 := two_lt (bitsC i)
    refine X_skip ?_
    refine X_seq ?_
    refine X_block ?_
    refine X_seq ?_
    refine X_reg ?_
    refine XR_a (op_assign rfl) rfl rfl ?_
    refine XR_nil ?_
    refine X_seq ?_
    refine X_seq ?_
    refine X_reg ?_
    refine XR_a (op_assign rfl) rfl rfl ?_
    refine XR_nil ?_
    refine X_block ?_
    refine X_loop (fun k => bitsC i - k) (fun k => [(0, .int .i64 (n : Int)), (3, .int .i64 (baseC i : Nat)), (4, .int .i64 (i : Int)), (5, .int .i64 ((2 ^ k : Nat) : Int)), (6, .int .i64 (k : Int))])
      (fun (k : Nat) hp => h0 = hp ∧ k ≤ bitsC i) 0 (.cons rfl (.cons rfl (.cons rfl (.cons rfl (.cons rfl (.nil _)))))) ⟨rfl, by omega⟩ ?_
    rintro k hp ⟨rfl, hki⟩
    refine X_seq ?_
    refine X_seq ?_
    refine X_reg ?_
    refine XR_a (op_move rfl) rfl rfl ?_
    refine XR_a (op_move rfl) rfl rfl ?_
    refine XR_wa (opl_call (bits_ref (by omega) _) rfl (by kernel_rfl)) rfl rfl rfl ?_
    rintro _ _ ⟨rfl, rfl⟩
    rw [Int.toNat_natCast]
    refine XR_a (op_lss rfl rfl) rfl rfl ?_
    refine XR_nil ?_
    refine X_if rfl (fun h => ?_) (fun h => ?_)
    · have hk1 := pow13 (k := k) (by omega)
      refine X_skip ?_
      refine X_seq ?_
      refine X_block ?_
      refine X_reg ?_
      refine XR_a (op_move rfl) rfl rfl ?_
      refine XR_a (op_mulN (m := 2 ^ k) (n := 2) rfl rfl (by simp only [inK]; omega)) rfl rfl ?_
      refine XR_a (op_assign rfl) rfl rfl ?_
      refine XR_nil ?_
      refine X_blk ?_
      refine X_reg ?_
      refine XR_a (op_move rfl) rfl rfl ?_
      first | refine XR_a (op_addN (n := 1) rfl rfl (by simp only [inK]; omega)) rfl rfl ?_ | refine XR_a (op_addI rfl rfl (by simp only [inK]; omega)) rfl rfl ?_ | refine XR_a (op_add rfl rfl) rfl rfl ?_
      refine XR_a (op_assign rfl) rfl rfl ?_
      refine XR_nil ?_
      exact X_again (k + 1) (.cons rfl (.cons rfl (.cons rfl (.cons rfl (.cons rfl (.nil _)))))) ⟨rfl, by omega⟩ (by omega)
    · obtain rfl : k = bitsC i := by omega
      refine X_exit rfl ?_
      refine X_reg ?_
      refine XR_a (op_move rfl) rfl rfl ?_
      refine XR_a (op_move rfl) rfl rfl ?_
      first | refine XR_a (op_addN rfl rfl (by simp only [inK]; omega)) rfl rfl ?_ | refine XR_a (op_addI rfl rfl (by simp only [inK]; omega)) rfl rfl ?_ | refine XR_a (op_add rfl rfl) rfl rfl ?_
      refine XR_a (op_assign rfl) rfl rfl ?_
      refine XR_nil ?_
      refine X_blk ?_
      refine X_reg ?_
      refine XR_a (op_move rfl) rfl rfl ?_
      first | refine XR_a (op_addN (n := 1) rfl rfl (by simp only [inK]; omega)) rfl rfl ?_ | refine XR_a (op_addI rfl rfl (by simp only [inK]; omega)) rfl rfl ?_ | refine XR_a (op_add rfl rfl) rfl rfl ?_
      refine XR_a (op_assign rfl) rfl rfl ?_
      refine XR_nil ?_
      exact X_again (i + 1) (.cons rfl (.cons rfl (.cons rfl (.nil _)))) ⟨rfl, by omega⟩ (by omega)
  · obtain rfl : i = n := by omega
    refine X_exit rfl ?_
    refine X_seq ?_
    refine X_reg ?_
    refine XR_a (op_move rfl) rfl rfl ?_
    refine XR_a (op_assign rfl) rfl rfl ?_
    refine XR_nil ?_
    refine X_ret (.cons (.tmp rfl) .nil) ?_
    exact ⟨rfl, rfl⟩
theorem val_ref {c : Kls} (hx : 0 ≤ c.ext ∧ c.ext < 4294967296) (h0 : Heap) : Ret Try.prog 143 [.agg #[.int .i64 c.num, .int .i64 c.bits, .int .u32 c.ext]] h0 fun r h' => r = retVal [.int .i64 (valP c).1, .bool (valP c).2] ∧ Ext h0 h' := by
  refine ret_of_X Try.func143 rfl rfl fun w0 hw0 => ?_
  simp only [argE, Nat.zero_add, Nat.reduceAdd]
  have st := St.start h0
  refine X_seq ?_
  refine X_reg ?_
  refine XR_wa (opl_bx rfl rfl) rfl rfl rfl ?_
  rintro _ hp ⟨p, rfl, hnew⟩
  have st := st.new hnew
  refine XR_a (op_assign rfl) rfl rfl ?_
  refine XR_a (op_assign rfl) rfl rfl ?_
  refine XR_nil ?_
  refine X_seq ?_
  refine X_seq ?_
  refine X_draw (butAt [(13, .grow)]) (by kernel_rfl) (by kernel_rfl) ?_
  first | refine XR_a (op_field0 rfl rfl) rfl rfl ?_ | refine XR_a (op_fieldn rfl rfl) rfl rfl ?_
  refine XR_a (op_ld (st.cell 0 (i := 0) rfl rfl) rfl rfl rfl) rfl rfl ?_
  refine XR_a (op_lss rfl rfl) rfl rfl ?_
  refine XR_a (op_move rfl) rfl rfl ?_
  refine XR_if 9 rfl (fun h => ?_) (fun h => ?_)
  · refine XR_no rfl rfl ?_
    refine XR_no rfl rfl ?_
    refine XR_no rfl rfl ?_
    refine XR_a (op_pick_t rfl rfl) rfl rfl ?_
    refine XR_a (op_move rfl) rfl rfl ?_
    refine XR_no rfl rfl ?_
    refine XR_no rfl rfl ?_
    refine XR_no rfl rfl ?_
    refine XR_no rfl rfl ?_
    refine XR_no rfl rfl ?_
    refine XR_no rfl rfl ?_
    refine XR_a (op_pick_t rfl rfl) rfl rfl ?_
    refine XR_nil ?_
    refine X_then rfl ?_
    refine X_seq ?_
    refine X_reg ?_
    refine XR_a (op_assign rfl) rfl rfl ?_
    refine XR_a (op_assign rfl) rfl rfl ?_
    refine XR_nil ?_
    refine X_ret (.cons (.tmp rfl) (.cons (.tmp rfl) .nil)) ?_
    rw [valP_none (valC_none1 (by omega))]
    exact ⟨rfl, st.low⟩
  · first | refine XR_a (op_field0 rfl rfl) rfl rfl ?_ | refine XR_a (op_fieldn rfl rfl) rfl rfl ?_
    refine XR_a (op_ld (st.cell 0 (i := 0) rfl rfl) rfl rfl rfl) rfl rfl ?_
    refine XR_a (op_gtr rfl rfl) rfl rfl ?_
    refine XR_a (op_pick_f rfl rfl) rfl rfl ?_
    refine XR_a (op_move rfl) rfl rfl ?_
    refine XR_if 14 rfl (fun h => ?_) (fun h => ?_)
    · refine XR_no rfl rfl ?_
      refine XR_no rfl rfl ?_
      refine XR_no rfl rfl ?_
      refine XR_no rfl rfl ?_
      refine XR_no rfl rfl ?_
      refine XR_no rfl rfl ?_
      refine XR_a (op_pick_t rfl rfl) rfl rfl ?_
      refine XR_nil ?_
      refine X_then rfl ?_
      refine X_seq ?_
      refine X_reg ?_
      refine XR_a (op_assign rfl) rfl rfl ?_
      refine XR_a (op_assign rfl) rfl rfl ?_
      refine XR_nil ?_
      refine X_ret (.cons (.tmp rfl) (.cons (.tmp rfl) .nil)) ?_
      rw [valP_none (valC_none1 (by omega))]
      exact ⟨rfl, st.low⟩
    · first | refine XR_a (op_field0 rfl rfl) rfl rfl ?_ | refine XR_a (op_fieldn rfl rfl) rfl rfl ?_
      refine XR_a (op_ld (st.cell 0 (i := 1) rfl rfl) rfl rfl rfl) rfl rfl ?_
      first | refine XR_a (op_field0 rfl rfl) rfl rfl ?_ | refine XR_a (op_fieldn rfl rfl) rfl rfl ?_
      refine XR_a (op_ld (st.cell 0 (i := 0) rfl rfl) rfl rfl rfl) rfl rfl ?_
      refine XR_ga (opl_call (bits_ref (by omega) _) rfl (by kernel_rfl)) rfl rfl rfl (fun _ _ h => h.2 ▸ Low.refl _ _) ?_
      rintro _ _ ⟨rfl, rfl⟩
      refine XR_a (op_neq rfl rfl) rfl rfl ?_
      refine XR_a (op_pick_f rfl rfl) rfl rfl ?_
      refine XR_nil ?_
      refine X_if rfl (fun h => ?_) (fun h => ?_)
      · obtain ⟨i, hi⟩ : ∃ i : Nat, c.num = i := ⟨c.num.toNat, by omega⟩
        rw [show c.num.toNat = i by omega] at h
        refine X_seq ?_
        refine X_reg ?_
        refine XR_a (op_assign rfl) rfl rfl ?_
        refine XR_a (op_assign rfl) rfl rfl ?_
        refine XR_nil ?_
        refine X_ret (.cons (.tmp rfl) (.cons (.tmp rfl) .nil)) ?_
        rw [valP_none (valC_none2 hi h)]
        exact ⟨rfl, st.low⟩
      · obtain ⟨i, hi⟩ : ∃ i : Nat, c.num = i := ⟨c.num.toNat, by omega⟩
        rw [show c.num.toNat = i by omega] at h
        have hbb := Decidable.not_not.1 h
        obtain ⟨e, he⟩ : ∃ e : Nat, c.ext = e := ⟨c.ext.toNat, by omega⟩
        have h30 : i < 30 := by omega
        have hk := bits14 h30
        have hp13 := pow13 hk
        have hbase := base30 h30
        refine X_skip ?_
        refine X_seq ?_
        refine X_reg ?_
        refine XR_a (op_assign rfl) rfl rfl ?_
        refine XR_nil ?_
        refine X_seq ?_
        refine X_seq ?_
        refine X_reg ?_
        refine XR_a (op_assign rfl) rfl rfl ?_
        refine XR_nil ?_
        refine X_block ?_
        refine X_loop (fun k => bitsC i - k) (fun k => [(1, .pointer (some ⟨p, 0, none⟩)), (4, .int .u32 ((2 ^ k : Nat) : Int)), (5, .int .i64 (k : Int))])
          (fun (k : Nat) hp => St h0.size h0 hp [pt p 111 (clsV c)] ∧ k ≤ bitsC i) 0 (.cons rfl (.cons rfl (.cons rfl (.nil _)))) ⟨st, by omega⟩ ?_
        clear st
        rintro k hp ⟨st, hki⟩
        refine X_seq ?_
        refine X_seq ?_
        refine X_reg ?_
        refine XR_a (op_move rfl) rfl rfl ?_
        first | refine XR_a (op_field0 rfl rfl) rfl rfl ?_ | refine XR_a (op_fieldn rfl rfl) rfl rfl ?_
        refine XR_a (op_ld (st.cell 0 (i := 1) rfl rfl) rfl rfl rfl) rfl rfl ?_
        refine XR_a (op_lss rfl rfl) rfl rfl ?_
        refine XR_nil ?_
        refine X_if rfl (fun h => ?_) (fun h => ?_)
        · have hk1 := pow13 (k := k) (by omega)
          refine X_skip ?_
          refine X_seq ?_
          refine X_block ?_
          refine X_reg ?_
          refine XR_a (op_move rfl) rfl rfl ?_
          refine XR_a (op_mulN (m := 2 ^ k) (n := 2) rfl rfl (by simp only [inK]; omega)) rfl rfl ?_
          refine XR_a (op_assign rfl) rfl rfl ?_
          refine XR_nil ?_
          refine X_blk ?_
          refine X_reg ?_
          refine XR_a (op_move rfl) rfl rfl ?_
          first | refine XR_a (op_addN (n := 1) rfl rfl (by simp only [inK]; omega)) rfl rfl ?_ | refine XR_a (op_addI rfl rfl (by simp only [inK]; omega)) rfl rfl ?_ | refine XR_a (op_add rfl rfl) rfl rfl ?_
          refine XR_a (op_assign rfl) rfl rfl ?_
          refine XR_nil ?_
          exact X_again (k + 1) (.cons rfl (.cons rfl (.cons rfl (.nil _)))) ⟨st, by omega⟩ (by omega)
        · obtain rfl : k = bitsC i := by omega
          refine X_exit rfl ?_
          refine X_seq ?_
          refine X_seq ?_
          refine X_reg ?_
          first | refine XR_a (op_field0 rfl rfl) rfl rfl ?_ | refine XR_a (op_fieldn rfl rfl) rfl rfl ?_
          refine XR_a (op_ld (st.cell 0 (i := 2) rfl rfl) rfl rfl rfl) rfl rfl ?_
          refine XR_a (op_move rfl) rfl rfl ?_
          refine XR_a (op_geq rfl rfl) rfl rfl ?_
          refine XR_nil ?_
          refine X_if rfl (fun h => ?_) (fun h => ?_)
          · refine X_seq ?_
            refine X_reg ?_
            refine XR_a (op_assign rfl) rfl rfl ?_
            refine XR_a (op_assign rfl) rfl rfl ?_
            refine XR_nil ?_
            refine X_ret (.cons (.tmp rfl) (.cons (.tmp rfl) .nil)) ?_
            rw [valP_none (valC_none3 hi he (by omega))]
            exact ⟨rfl, st.low⟩
          · rw [valP_some (valC_yes hi h30 hbb he (by omega))]
            refine X_skip ?_
            refine X_seq ?_
            refine X_draw_in (butAt [(2, .grow)]) [0, 1, 3, 4, 5, 2, 6, 7, 8] (by kernel_rfl) (by kernel_rfl) rfl ?_
            first | refine XR_a (op_field0 rfl rfl) rfl rfl ?_ | refine XR_a (op_fieldn rfl rfl) rfl rfl ?_
            refine XR_a (op_ld (st.cell 0 (i := 0) rfl rfl) rfl rfl rfl) rfl rfl ?_
            refine XR_as (.int .i64 (i : Int)) (by rw [hi]) ?_
            first | refine XR_a (op_field0 rfl rfl) rfl rfl ?_ | refine XR_a (op_fieldn rfl rfl) rfl rfl ?_
            refine XR_a (op_ld (st.cell 0 (i := 2) rfl rfl) rfl rfl rfl) rfl rfl ?_
            first | refine XR_a (op_convI rfl rfl (by simp only [inK]; omega)) rfl rfl ?_ | refine XR_a (op_conv rfl rfl) rfl rfl ?_
            refine XR_as (.int .i64 (e : Int)) (by rw [he]) ?_
            refine XR_ga (opl_call (base_ref (n := i) (by omega) _) rfl (by kernel_rfl)) rfl rfl rfl (fun _ _ h => h.2 ▸ Low.refl _ _) ?_
            rintro _ _ ⟨rfl, rfl⟩
            first | refine XR_a (op_addN rfl rfl (by simp only [inK]; omega)) rfl rfl ?_ | refine XR_a (op_addI rfl rfl (by simp only [inK]; omega)) rfl rfl ?_ | refine XR_a (op_add rfl rfl) rfl rfl ?_
            refine XR_a (op_assign rfl) rfl rfl ?_
            refine XR_a (op_assign rfl) rfl rfl ?_
            refine XR_nil ?_
            refine X_ret (.cons (.tmp rfl) (.cons (.tmp rfl) .nil)) ?_
            exact ⟨rfl, st.low⟩
end Go.Bn
end

section
set_option linter.unusedVariables false
set_option linter.unusedSimpArgs false
set_option maxHeartbeats 4000000
set_option maxRecDepth 20000
namespace Go.Bn
open Go Proofs
theorem tin_spec (a b c : Int) (h0 : Heap) : Ret Try.prog 147 [.int .i64 a, .int .i64 b, .int .i64 c] h0 fun r h' => r = .bool (decide (b ≤ a ∧ a ≤ c)) ∧ h0 = h' := by
  refine ret_of_X Try.func147 rfl rfl fun w0 hw0 => ?_
  simp only [argE, Nat.zero_add, Nat.reduceAdd]
  refine X_seq ?_
  refine X_reg ?_
  refine XR_a (op_assign rfl) rfl rfl ?_
  refine XR_nil ?_
  refine X_seq ?_
  refine X_reg ?_
  refine XR_a (op_move rfl) rfl rfl ?_
  refine XR_a (op_move rfl) rfl rfl ?_
  refine XR_a (op_geq rfl rfl) rfl rfl ?_
  refine XR_a (op_move rfl) rfl rfl ?_
  refine XR_if 10 rfl (fun h => ?_) (fun h => ?_)
  · refine XR_a (op_move rfl) rfl rfl ?_
    refine XR_a (op_move rfl) rfl rfl ?_
    refine XR_a (op_leq rfl rfl) rfl rfl ?_
    refine XR_a (op_pick_t rfl rfl) rfl rfl ?_
    refine XR_a (op_assign rfl) rfl rfl ?_
    refine XR_nil ?_
    refine X_ret (.cons (.tmp rfl) .nil) ?_
    first
      | exact ⟨congrArg Value.bool (decide_eq_false (by omega)).symm, rfl⟩
      | exact ⟨congrArg Value.bool (decide_eq_decide.2 ⟨fun hh => by omega, fun hh => by omega⟩), rfl⟩
  · refine XR_no rfl rfl ?_
    refine XR_no rfl rfl ?_
    refine XR_no rfl rfl ?_
    refine XR_a (op_pick_f rfl rfl) rfl rfl ?_
    refine XR_a (op_assign rfl) rfl rfl ?_
    refine XR_nil ?_
    refine X_ret (.cons (.tmp rfl) .nil) ?_
    first
      | exact ⟨congrArg Value.bool (decide_eq_false (by omega)).symm, rfl⟩
      | exact ⟨congrArg Value.bool (decide_eq_decide.2 ⟨fun hh => by omega, fun hh => by omega⟩), rfl⟩
theorem tright_spec (t : Tok) (h0 : Heap) : Ret Try.prog 120 [.agg #[.int .u8 t.byte, .int .i64 t.len, .int .i64 t.dist]] h0 fun r h' => r = .bool (decide t.right) ∧ Ext h0 h' := by
  refine ret_of_X Try.func120 rfl rfl fun w0 hw0 => ?_
  simp only [argE, Nat.zero_add, Nat.reduceAdd]
  have st := St.start h0
  unfold Tok.right
  refine X_seq ?_
  refine X_reg ?_
  refine XR_wa (opl_bx rfl rfl) rfl rfl rfl ?_
  rintro _ hp ⟨p, rfl, hnew⟩
  have st := st.new hnew
  refine XR_a (op_assign rfl) rfl rfl ?_
  refine XR_nil ?_
  refine X_seq ?_
  refine X_seq ?_
  refine X_reg ?_
  first | refine XR_a (op_field0 rfl rfl) rfl rfl ?_ | refine XR_a (op_fieldn rfl rfl) rfl rfl ?_
  refine XR_a (op_ld (st.cell 0 (i := 1) rfl rfl) rfl rfl rfl) rfl rfl ?_
  refine XR_a (op_eql rfl rfl) rfl rfl ?_
  refine XR_nil ?_
  refine X_if rfl (fun h => ?_) (fun h => ?_)
  · refine X_seq ?_
    refine X_reg ?_
    first | refine XR_a (op_field0 rfl rfl) rfl rfl ?_ | refine XR_a (op_fieldn rfl rfl) rfl rfl ?_
    refine XR_a (op_ld (st.cell 0 (i := 2) rfl rfl) rfl rfl rfl) rfl rfl ?_
    refine XR_a (op_eql rfl rfl) rfl rfl ?_
    refine XR_a (op_assign rfl) rfl rfl ?_
    refine XR_nil ?_
    refine X_ret (.cons (.tmp rfl) .nil) ?_
    refine ⟨congrArg Value.bool (decide_eq_decide.2 ?_), st.low⟩
    rw [if_pos h]
  · have hlen := h
    refine X_skip ?_
    refine X_seq ?_
    refine X_reg ?_
    first | refine XR_a (op_field0 rfl rfl) rfl rfl ?_ | refine XR_a (op_fieldn rfl rfl) rfl rfl ?_
    refine XR_a (op_ld (st.cell 0 (i := 0) rfl rfl) rfl rfl rfl) rfl rfl ?_
    refine XR_a (op_eql rfl rfl) rfl rfl ?_
    refine XR_a (op_move rfl) rfl rfl ?_
    refine XR_if 12 rfl (fun h => ?_) (fun h => ?_)
    · first | refine XR_a (op_field0 rfl rfl) rfl rfl ?_ | refine XR_a (op_fieldn rfl rfl) rfl rfl ?_
      refine XR_a (op_ld (st.cell 0 (i := 1) rfl rfl) rfl rfl rfl) rfl rfl ?_
      refine XR_wa (opl_call (tin_spec _ _ _ _) rfl (by kernel_rfl)) rfl rfl rfl ?_
      rintro _ _ ⟨rfl, rfl⟩
      refine XR_a (op_pick_t rfl rfl) rfl rfl ?_
      refine XR_a (op_move rfl) rfl rfl ?_
      refine XR_if 17 rfl (fun h => ?_) (fun h => ?_)
      · first | refine XR_a (op_field0 rfl rfl) rfl rfl ?_ | refine XR_a (op_fieldn rfl rfl) rfl rfl ?_
        refine XR_a (op_ld (st.cell 0 (i := 2) rfl rfl) rfl rfl rfl) rfl rfl ?_
        refine XR_wa (opl_call (tin_spec _ _ _ _) rfl (by kernel_rfl)) rfl rfl rfl ?_
        rintro _ _ ⟨rfl, rfl⟩
        refine XR_a (op_pick_t rfl rfl) rfl rfl ?_
        refine XR_a (op_assign rfl) rfl rfl ?_
        refine XR_nil ?_
        refine X_ret (.cons (.tmp rfl) .nil) ?_
        refine ⟨congrArg Value.bool (decide_eq_decide.2 ?_), st.low⟩
        rw [if_neg hlen]
        rename_i hb
        exact ⟨fun hh => ⟨hb, h.1, h.2, hh.1, hh.2⟩, fun hh => ⟨hh.2.2.2.1, hh.2.2.2.2⟩⟩
      · refine XR_no rfl rfl ?_
        refine XR_no rfl rfl ?_
        refine XR_no rfl rfl ?_
        refine XR_a (op_pick_f rfl rfl) rfl rfl ?_
        refine XR_a (op_assign rfl) rfl rfl ?_
        refine XR_nil ?_
        refine X_ret (.cons (.tmp rfl) .nil) ?_
        refine ⟨congrArg Value.bool (decide_eq_false ?_).symm, st.low⟩
        rw [if_neg hlen]
        rintro ⟨h1, h2, h3, h4⟩; exact h ⟨h2, h3⟩
    · refine XR_no rfl rfl ?_
      refine XR_no rfl rfl ?_
      refine XR_no rfl rfl ?_
      refine XR_a (op_pick_f rfl rfl) rfl rfl ?_
      refine XR_a (op_move rfl) rfl rfl ?_
      refine XR_no rfl rfl ?_
      refine XR_no rfl rfl ?_
      refine XR_no rfl rfl ?_
      refine XR_a (op_pick_f rfl rfl) rfl rfl ?_
      refine XR_a (op_assign rfl) rfl rfl ?_
      refine XR_nil ?_
      refine X_ret (.cons (.tmp rfl) .nil) ?_
      refine ⟨congrArg Value.bool (decide_eq_false ?_).symm, st.low⟩
      rw [if_neg hlen]
      rintro ⟨h1, _⟩; exact h h1
theorem tright_ref (t : Tok) (h0 : Heap) : Ret Try.prog 63 [.agg #[.int .u8 t.byte, .int .i64 t.len, .int .i64 t.dist]] h0 fun r h' => r = .bool (decide t.right) ∧ Ext h0 h' := by
  refine ret_of_X Try.func63 rfl rfl fun w0 hw0 => ?_
  simp only [argE, Nat.zero_add, Nat.reduceAdd]
  have st := St.start h0
  unfold Tok.right
  refine X_seq ?_
  refine X_reg ?_
  refine XR_wa (opl_bx rfl rfl) rfl rfl rfl ?_
  rintro _ hp ⟨p, rfl, hnew⟩
  have st := st.new hnew
  refine XR_a (op_assign rfl) rfl rfl ?_
  refine XR_nil ?_
  refine X_seq ?_
  refine X_seq ?_
  refine X_reg ?_
  first | refine XR_a (op_field0 rfl rfl) rfl rfl ?_ | refine XR_a (op_fieldn rfl rfl) rfl rfl ?_
  refine XR_a (op_ld (st.cell 0 (i := 1) rfl rfl) rfl rfl rfl) rfl rfl ?_
  refine XR_a (op_eql rfl rfl) rfl rfl ?_
  refine XR_a (op_move rfl) rfl rfl ?_
  refine XR_if 6 rfl (fun h => ?_) (fun h => ?_)
  · first | refine XR_a (op_field0 rfl rfl) rfl rfl ?_ | refine XR_a (op_fieldn rfl rfl) rfl rfl ?_
    refine XR_a (op_ld (st.cell 0 (i := 2) rfl rfl) rfl rfl rfl) rfl rfl ?_
    refine XR_a (op_eql rfl rfl) rfl rfl ?_
    refine XR_a (op_pick_t rfl rfl) rfl rfl ?_
    refine XR_nil ?_
    refine X_if rfl (fun h => ?_) (fun h => ?_)
    · refine X_seq ?_
      refine X_reg ?_
      refine XR_a (op_assign rfl) rfl rfl ?_
      refine XR_nil ?_
      refine X_ret (.cons (.tmp rfl) .nil) ?_
      refine ⟨congrArg Value.bool (decide_eq_true ?_).symm, st.low⟩
      rw [if_pos (by omega)]; omega
    · refine X_skip ?_
      refine X_seq ?_
      refine X_reg ?_
      first | refine XR_a (op_field0 rfl rfl) rfl rfl ?_ | refine XR_a (op_fieldn rfl rfl) rfl rfl ?_
      refine XR_a (op_ld (st.cell 0 (i := 0) rfl rfl) rfl rfl rfl) rfl rfl ?_
      refine XR_a (op_eql rfl rfl) rfl rfl ?_
      refine XR_a (op_move rfl) rfl rfl ?_
      refine XR_if 14 rfl (fun h => ?_) (fun h => ?_)
      · first | refine XR_a (op_field0 rfl rfl) rfl rfl ?_ | refine XR_a (op_fieldn rfl rfl) rfl rfl ?_
        refine XR_a (op_ld (st.cell 0 (i := 1) rfl rfl) rfl rfl rfl) rfl rfl ?_
        refine XR_a (op_gtr rfl rfl) rfl rfl ?_
        refine XR_a (op_pick_t rfl rfl) rfl rfl ?_
        refine XR_a (op_move rfl) rfl rfl ?_
        refine XR_if 19 rfl (fun h => ?_) (fun h => ?_)
        · first | refine XR_a (op_field0 rfl rfl) rfl rfl ?_ | refine XR_a (op_fieldn rfl rfl) rfl rfl ?_
          refine XR_a (op_ld (st.cell 0 (i := 1) rfl rfl) rfl rfl rfl) rfl rfl ?_
          refine XR_a (op_lss rfl rfl) rfl rfl ?_
          refine XR_a (op_pick_t rfl rfl) rfl rfl ?_
          refine XR_a (op_move rfl) rfl rfl ?_
          refine XR_if 24 rfl (fun h => ?_) (fun h => ?_)
          · first | refine XR_a (op_field0 rfl rfl) rfl rfl ?_ | refine XR_a (op_fieldn rfl rfl) rfl rfl ?_
            refine XR_a (op_ld (st.cell 0 (i := 2) rfl rfl) rfl rfl rfl) rfl rfl ?_
            refine XR_a (op_gtr rfl rfl) rfl rfl ?_
            refine XR_a (op_pick_t rfl rfl) rfl rfl ?_
            refine XR_a (op_move rfl) rfl rfl ?_
            refine XR_if 29 rfl (fun h => ?_) (fun h => ?_)
            · first | refine XR_a (op_field0 rfl rfl) rfl rfl ?_ | refine XR_a (op_fieldn rfl rfl) rfl rfl ?_
              refine XR_a (op_ld (st.cell 0 (i := 2) rfl rfl) rfl rfl rfl) rfl rfl ?_
              refine XR_a (op_lss rfl rfl) rfl rfl ?_
              refine XR_a (op_pick_t rfl rfl) rfl rfl ?_
              refine XR_a (op_assign rfl) rfl rfl ?_
              refine XR_nil ?_
              refine X_ret (.cons (.tmp rfl) .nil) ?_
              refine ⟨congrArg Value.bool ?_, st.low⟩
              first
                | (refine (decide_eq_false ?_).symm
                   intro hh
                   split at hh <;> omega)
                | (refine decide_eq_decide.2 ⟨fun hh => ?_, fun hh => ?_⟩
                   · rw [if_neg (by omega)]; omega
                   · split at hh <;> omega)
            · refine XR_no rfl rfl ?_
              refine XR_no rfl rfl ?_
              refine XR_no rfl rfl ?_
              refine XR_a (op_pick_f rfl rfl) rfl rfl ?_
              refine XR_a (op_assign rfl) rfl rfl ?_
              refine XR_nil ?_
              refine X_ret (.cons (.tmp rfl) .nil) ?_
              refine ⟨congrArg Value.bool ?_, st.low⟩
              first
                | (refine (decide_eq_false ?_).symm
                   intro hh
                   split at hh <;> omega)
                | (refine decide_eq_decide.2 ⟨fun hh => ?_, fun hh => ?_⟩
                   · rw [if_neg (by omega)]; omega
                   · split at hh <;> omega)
          · refine XR_no rfl rfl ?_
            refine XR_no rfl rfl ?_
            refine XR_no rfl rfl ?_
            refine XR_a (op_pick_f rfl rfl) rfl rfl ?_
            refine XR_a (op_move rfl) rfl rfl ?_
            refine XR_no rfl rfl ?_
            refine XR_no rfl rfl ?_
            refine XR_no rfl rfl ?_
            refine XR_a (op_pick_f rfl rfl) rfl rfl ?_
            refine XR_a (op_assign rfl) rfl rfl ?_
            refine XR_nil ?_
            refine X_ret (.cons (.tmp rfl) .nil) ?_
            refine ⟨congrArg Value.bool ?_, st.low⟩
            first
              | (refine (decide_eq_false ?_).symm
                 intro hh
                 split at hh <;> omega)
              | (refine decide_eq_decide.2 ⟨fun hh => ?_, fun hh => ?_⟩
                 · rw [if_neg (by omega)]; omega
                 · split at hh <;> omega)
        · refine XR_no rfl rfl ?_
          refine XR_no rfl rfl ?_
          refine XR_no rfl rfl ?_
          refine XR_a (op_pick_f rfl rfl) rfl rfl ?_
          refine XR_a (op_move rfl) rfl rfl ?_
          refine XR_no rfl rfl ?_
          refine XR_no rfl rfl ?_
          refine XR_no rfl rfl ?_
          refine XR_a (op_pick_f rfl rfl) rfl rfl ?_
          refine XR_a (op_move rfl) rfl rfl ?_
          refine XR_no rfl rfl ?_
          refine XR_no rfl rfl ?_
          refine XR_no rfl rfl ?_
          refine XR_a (op_pick_f rfl rfl) rfl rfl ?_
          refine XR_a (op_assign rfl) rfl rfl ?_
          refine XR_nil ?_
          refine X_ret (.cons (.tmp rfl) .nil) ?_
          refine ⟨congrArg Value.bool ?_, st.low⟩
          first
            | (refine (decide_eq_false ?_).symm
               intro hh
               split at hh <;> omega)
            | (refine decide_eq_decide.2 ⟨fun hh => ?_, fun hh => ?_⟩
               · rw [if_neg (by omega)]; omega
               · split at hh <;> omega)
      · refine XR_no rfl rfl ?_
        refine XR_no rfl rfl ?_
        refine XR_no rfl rfl ?_
        refine XR_a (op_pick_f rfl rfl) rfl rfl ?_
        refine XR_a (op_move rfl) rfl rfl ?_
        refine XR_no rfl rfl ?_
        refine XR_no rfl rfl ?_
        refine XR_no rfl rfl ?_
        refine XR_a (op_pick_f rfl rfl) rfl rfl ?_
        refine XR_a (op_move rfl) rfl rfl ?_
        refine XR_no rfl rfl ?_
        refine XR_no rfl rfl ?_
        refine XR_no rfl rfl ?_
        refine XR_a (op_pick_f rfl rfl) rfl rfl ?_
        refine XR_a (op_move rfl) rfl rfl ?_
        refine XR_no rfl rfl ?_
        refine XR_no rfl rfl ?_
        refine XR_no rfl rfl ?_
        refine XR_a (op_pick_f rfl rfl) rfl rfl ?_
        refine XR_a (op_assign rfl) rfl rfl ?_
        refine XR_nil ?_
        refine X_ret (.cons (.tmp rfl) .nil) ?_
        refine ⟨congrArg Value.bool ?_, st.low⟩
        first
          | (refine (decide_eq_false ?_).symm
             intro hh
             split at hh <;> omega)
          | (refine decide_eq_decide.2 ⟨fun hh => ?_, fun hh => ?_⟩
             · rw [if_neg (by omega)]; omega
             · split at hh <;> omega)
  · refine XR_no rfl rfl ?_
    refine XR_no rfl rfl ?_
    refine XR_no rfl rfl ?_
    refine XR_a (op_pick_f rfl rfl) rfl rfl ?_
    refine XR_nil ?_
    refine X_else rfl ?_
    refine X_skip ?_
    refine X_seq ?_
    refine X_reg ?_
    first | refine XR_a (op_field0 rfl rfl) rfl rfl ?_ | refine XR_a (op_fieldn rfl rfl) rfl rfl ?_
    refine XR_a (op_ld (st.cell 0 (i := 0) rfl rfl) rfl rfl rfl) rfl rfl ?_
    refine XR_a (op_eql rfl rfl) rfl rfl ?_
    refine XR_a (op_move rfl) rfl rfl ?_
    refine XR_if 14 rfl (fun h => ?_) (fun h => ?_)
    · first | refine XR_a (op_field0 rfl rfl) rfl rfl ?_ | refine XR_a (op_fieldn rfl rfl) rfl rfl ?_
      refine XR_a (op_ld (st.cell 0 (i := 1) rfl rfl) rfl rfl rfl) rfl rfl ?_
      refine XR_a (op_gtr rfl rfl) rfl rfl ?_
      refine XR_a (op_pick_t rfl rfl) rfl rfl ?_
      refine XR_a (op_move rfl) rfl rfl ?_
      refine XR_if 19 rfl (fun h => ?_) (fun h => ?_)
      · first | refine XR_a (op_field0 rfl rfl) rfl rfl ?_ | refine XR_a (op_fieldn rfl rfl) rfl rfl ?_
        refine XR_a (op_ld (st.cell 0 (i := 1) rfl rfl) rfl rfl rfl) rfl rfl ?_
        refine XR_a (op_lss rfl rfl) rfl rfl ?_
        refine XR_a (op_pick_t rfl rfl) rfl rfl ?_
        refine XR_a (op_move rfl) rfl rfl ?_
        refine XR_if 24 rfl (fun h => ?_) (fun h => ?_)
        · first | refine XR_a (op_field0 rfl rfl) rfl rfl ?_ | refine XR_a (op_fieldn rfl rfl) rfl rfl ?_
          refine XR_a (op_ld (st.cell 0 (i := 2) rfl rfl) rfl rfl rfl) rfl rfl ?_
          refine XR_a (op_gtr rfl rfl) rfl rfl ?_
          refine XR_a (op_pick_t rfl rfl) rfl rfl ?_
          refine XR_a (op_move rfl) rfl rfl ?_
          refine XR_if 29 rfl (fun h => ?_) (fun h => ?_)
          · first | refine XR_a (op_field0 rfl rfl) rfl rfl ?_ | refine XR_a (op_fieldn rfl rfl) rfl rfl ?_
            refine XR_a (op_ld (st.cell 0 (i := 2) rfl rfl) rfl rfl rfl) rfl rfl ?_
            refine XR_a (op_lss rfl rfl) rfl rfl ?_
            refine XR_a (op_pick_t rfl rfl) rfl rfl ?_
            refine XR_a (op_assign rfl) rfl rfl ?_
            refine XR_nil ?_
            refine X_ret (.cons (.tmp rfl) .nil) ?_
            refine ⟨congrArg Value.bool ?_, st.low⟩
            first
              | (refine (decide_eq_false ?_).symm
                 intro hh
                 split at hh <;> omega)
              | (refine decide_eq_decide.2 ⟨fun hh => ?_, fun hh => ?_⟩
                 · rw [if_neg (by omega)]; omega
                 · split at hh <;> omega)
          · refine XR_no rfl rfl ?_
            refine XR_no rfl rfl ?_
            refine XR_no rfl rfl ?_
            refine XR_a (op_pick_f rfl rfl) rfl rfl ?_
            refine XR_a (op_assign rfl) rfl rfl ?_
            refine XR_nil ?_
            refine X_ret (.cons (.tmp rfl) .nil) ?_
            refine ⟨congrArg Value.bool ?_, st.low⟩
            first
              | (refine (decide_eq_false ?_).symm
                 intro hh
                 split at hh <;> omega)
              | (refine decide_eq_decide.2 ⟨fun hh => ?_, fun hh => ?_⟩
                 · rw [if_neg (by omega)]; omega
                 · split at hh <;> omega)
        · refine XR_no rfl rfl ?_
          refine XR_no rfl rfl ?_
          refine XR_no rfl rfl ?_
          refine XR_a (op_pick_f rfl rfl) rfl rfl ?_
          refine XR_a (op_move rfl) rfl rfl ?_
          refine XR_no rfl rfl ?_
          refine XR_no rfl rfl ?_
          refine XR_no rfl rfl ?_
          refine XR_a (op_pick_f rfl rfl) rfl rfl ?_
          refine XR_a (op_assign rfl) rfl rfl ?_
          refine XR_nil ?_
          refine X_ret (.cons (.tmp rfl) .nil) ?_
          refine ⟨congrArg Value.bool ?_, st.low⟩
          first
            | (refine (decide_eq_false ?_).symm
               intro hh
               split at hh <;> omega)
            | (refine decide_eq_decide.2 ⟨fun hh => ?_, fun hh => ?_⟩
               · rw [if_neg (by omega)]; omega
               · split at hh <;> omega)
      · refine XR_no rfl rfl ?_
        refine XR_no rfl rfl ?_
        refine XR_no rfl rfl ?_
        refine XR_a (op_pick_f rfl rfl) rfl rfl ?_
        refine XR_a (op_move rfl) rfl rfl ?_
        refine XR_no rfl rfl ?_
        refine XR_no rfl rfl ?_
        refine XR_no rfl rfl ?_
        refine XR_a (op_pick_f rfl rfl) rfl rfl ?_
        refine XR_a (op_move rfl) rfl rfl ?_
        refine XR_no rfl rfl ?_
        refine XR_no rfl rfl ?_
        refine XR_no rfl rfl ?_
        refine XR_a (op_pick_f rfl rfl) rfl rfl ?_
        refine XR_a (op_assign rfl) rfl rfl ?_
        refine XR_nil ?_
        refine X_ret (.cons (.tmp rfl) .nil) ?_
        refine ⟨congrArg Value.bool ?_, st.low⟩
        first
          | (refine (decide_eq_false ?_).symm
             intro hh
             split at hh <;> omega)
          | (refine decide_eq_decide.2 ⟨fun hh => ?_, fun hh => ?_⟩
             · rw [if_neg (by omega)]; omega
             · split at hh <;> omega)
    · refine XR_no rfl rfl ?_
      refine XR_no rfl rfl ?_
      refine XR_no rfl rfl ?_
      refine XR_a (op_pick_f rfl rfl) rfl rfl ?_
      refine XR_a (op_move rfl) rfl rfl ?_
      refine XR_no rfl rfl ?_
      refine XR_no rfl rfl ?_
      refine XR_no rfl rfl ?_
      refine XR_a (op_pick_f rfl rfl) rfl rfl ?_
      refine XR_a (op_move rfl) rfl rfl ?_
      refine XR_no rfl rfl ?_
      refine XR_no rfl rfl ?_
      refine XR_no rfl rfl ?_
      refine XR_a (op_pick_f rfl rfl) rfl rfl ?_
      refine XR_a (op_move rfl) rfl rfl ?_
      refine XR_no rfl rfl ?_
      refine XR_no rfl rfl ?_
      refine XR_no rfl rfl ?_
      refine XR_a (op_pick_f rfl rfl) rfl rfl ?_
      refine XR_a (op_assign rfl) rfl rfl ?_
      refine XR_nil ?_
      refine X_ret (.cons (.tmp rfl) .nil) ?_
      refine ⟨congrArg Value.bool ?_, st.low⟩
      first
        | (refine (decide_eq_false ?_).symm
           intro hh
           split at hh <;> omega)
        | (refine decide_eq_decide.2 ⟨fun hh => ?_, fun hh => ?_⟩
           · rw [if_neg (by omega)]; omega
           · split at hh <;> omega)
end Go.Bn
end
