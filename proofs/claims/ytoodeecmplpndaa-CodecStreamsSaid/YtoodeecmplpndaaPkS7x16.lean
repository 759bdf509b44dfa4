/- Packed texts of a claim: what its theorem uses, joined. -/
import Derived.Test.YtoodeecmplpndaaPkS7x13
section
set_option linter.unusedVariables false
set_option linter.unusedSimpArgs false
set_option maxHeartbeats 4000000
set_option maxRecDepth 20000
namespace Go.Bn
open Go Proofs
theorem len10_ref {n c a d : Nat} {A : Option Addr} {b : List UInt8} {h0 : Heap} (hr : Rd h0 A (b.map byteV)) (hl : b.length = n) (hn : n ≤ 1099511627776) (ha : a ≤ 1099511627776) (hd : d ≤ 1099511627776) :
  Ret Try.prog 76 [.slice A n c, nV a, nV d] h0 fun v h' => v = nV (lenM b a d) ∧ h0 = h' := by
 have hout : (n ≤ a ∨ d < 1 ∨ 32768 < d ∨ a < d) → lenM b a d = 0 := fun h => by
  by_cases h0 : lenM b a d = 0
  ·exact h0
  ·have := lenM_in h0; omega
 refine ret_of_X Try.func76 rfl rfl fun w0 hw0 => ?_
 simp only [argE, Nat.zero_add, Nat.reduceAdd]
 refine X_seq (X_reg (XA rfl rfl rfl (XR_nil (X_seq (X_seq (X_reg (XV rfl rfl rfl ?_)))))))
 refine XR_a (op_lss rfl rfl) rfl rfl ?_
 refine XV rfl rfl rfl ?_
 refine XR_if 11 rfl (fun h => ?_) (fun h => ?_)
 ·exact absurd h (by omega)
 ·refine XV rfl rfl rfl (XV rfl rfl rfl ?_)
  refine XR_a (op_len rfl rfl rfl) rfl rfl ?_
  refine XR_a (op_geq rfl rfl) rfl rfl ?_
  refine XR_a (op_pick_f rfl rfl) rfl rfl (XV rfl rfl rfl ?_)
  refine XR_if 17 rfl (fun h => ?_) (fun h => ?_)
  ·have hz : lenM b a d = 0 := hout (by omega)
   refine XR_no rfl rfl (XR_no rfl rfl (XR_a (op_pick_t rfl rfl) rfl rfl (XV rfl rfl rfl (XR_no rfl rfl (XR_no rfl rfl (XR_a (op_pick_t rfl rfl) rfl rfl (XV rfl rfl rfl (XR_no rfl rfl (XR_no rfl rfl ?_)))))))))
   refine XR_no rfl rfl (XR_a (op_pick_t rfl rfl) rfl rfl (XR_nil (X_then rfl (X_seq (X_reg (XA rfl rfl rfl (XR_nil ?_)))))))
   refine X_ret (.cons (.tmp rfl) .nil) ?_
   rw [hz]
   exact ⟨rfl, rfl⟩
  ·refine XV rfl rfl rfl ?_
   refine XR_a (op_lss rfl rfl) rfl rfl ?_
   refine XR_a (op_pick_f rfl rfl) rfl rfl (XV rfl rfl rfl ?_)
   refine XR_if 21 rfl (fun h => ?_) (fun h => ?_)
   ·have hz : lenM b a d = 0 := hout (by omega)
    refine XR_no rfl rfl (XR_no rfl rfl (XR_a (op_pick_t rfl rfl) rfl rfl (XV rfl rfl rfl (XR_no rfl rfl (XR_no rfl rfl (XR_no rfl rfl (XR_a (op_pick_t rfl rfl) rfl rfl (XR_nil (X_then rfl ?_)))))))))
    refine X_seq (X_reg (XA rfl rfl rfl (XR_nil ?_)))
    refine X_ret (.cons (.tmp rfl) .nil) ?_
    rw [hz]
    exact ⟨rfl, rfl⟩
   ·refine XV rfl rfl rfl ?_
    refine XR_a (op_gtr rfl rfl) rfl rfl ?_
    refine XR_a (op_pick_f rfl rfl) rfl rfl (XV rfl rfl rfl ?_)
    refine XR_if 25 rfl (fun h => ?_) (fun h => ?_)
    ·have hz : lenM b a d = 0 := hout (by omega)
     refine XR_no rfl rfl (XR_no rfl rfl (XR_no rfl rfl (XR_a (op_pick_t rfl rfl) rfl rfl (XR_nil (X_then rfl (X_seq (X_reg (XA rfl rfl rfl (XR_nil ?_)))))))))
     refine X_ret (.cons (.tmp rfl) .nil) ?_
     rw [hz]
     exact ⟨rfl, rfl⟩
    ·refine XV rfl rfl rfl (XV rfl rfl rfl ?_)
     refine XR_a (op_gtr rfl rfl) rfl rfl ?_
     refine XR_a (op_pick_f rfl rfl) rfl rfl (XR_nil ?_)
     refine X_if rfl (fun h => ?_) (fun h => ?_)
     ·have hz : lenM b a d = 0 := hout (by omega)
      refine X_seq (X_reg (XA rfl rfl rfl (XR_nil ?_)))
      refine X_ret (.cons (.tmp rfl) .nil) ?_
      rw [hz]
      exact ⟨rfl, rfl⟩
     ·refine X_skip (X_seq (X_reg (XA rfl rfl rfl (XR_nil (X_seq (X_seq (X_reg (XV rfl rfl rfl (XA rfl rfl rfl ?_)))))))))
      refine XR_nil (X_block ?_)
      obtain ⟨g, o, rfl, hc⟩ := hr.at_ (by rw [List.length_map]; omega)
      have hci : ∀ i (hi : i < b.length), cellH h0 ⟨g, o + i, none⟩ = some (byteV b[i]) := fun i hi => hc i _ (by rw [List.getElem?_map, List.getElem?_eq_getElem hi]; rfl)
      have hL : lenM b a d = min 258 (likeM (b.drop a) (b.drop (a - d))) := by unfold lenM; rw [if_neg (by omega)]
      refine X_loop (fun k => 258 - k) (fun k => [(0, .slice (some ⟨g, o, none⟩) n c), (2, nV d), (7, nV k), (8, nV (a + k))])
       (fun (k : Nat) hp => h0 = hp ∧ k ≤ 258 ∧ a + k ≤ n ∧ k + likeM (b.drop (a + k)) (b.drop (a - d + k)) = likeM (b.drop a) (b.drop (a - d)))
       0 (.cons rfl (.cons rfl (.cons rfl (.cons rfl (.nil _))))) ⟨rfl, by omega, by omega, by rw [Nat.zero_add, Nat.add_zero, Nat.add_zero]⟩ ?_
      rintro k hp ⟨rfl, hk, hak, hlk⟩
      refine X_seq (X_seq (X_reg (XV rfl rfl rfl (XV rfl rfl rfl ?_))))
      refine XR_a (op_len rfl rfl rfl) rfl rfl ?_
      refine XR_a (op_lss rfl rfl) rfl rfl ?_
      refine XV rfl rfl rfl ?_
      refine XR_if 35 rfl (fun h => ?_) (fun h => ?_)
      ·refine XV rfl rfl rfl ?_
       refine XR_a (op_lss rfl rfl) rfl rfl ?_
       refine XR_a (op_pick_t rfl rfl) rfl rfl (XR_nil ?_)
       refine X_if rfl (fun h => ?_) (fun h => ?_)
       ·have hst := likeM_at (b := b) (i := a + k) (j := a - d + k) (by omega) (by omega)
        refine X_skip (X_seq (X_block (X_seq (X_seq ?_))))
        refine X_draw byKind (by kernel_rfl) (by kernel_rfl) ?_
        refine XV rfl rfl rfl (XV rfl rfl rfl ?_)
        refine XR_a (op_index1 (i := a + k) rfl rfl rfl (by omega)) rfl rfl ?_
        refine XR_a (op_ld (hci (a + k) (by omega)) rfl rfl rfl) rfl rfl ?_
        refine XV rfl rfl rfl (XV rfl rfl rfl (XV rfl rfl rfl ?_))
        refine XR_a (op_subN rfl rfl (by omega) (by simp only [inK]; omega)) rfl rfl ?_
        refine XR_a (op_index1 (i := a + k - d) rfl rfl rfl (by omega)) rfl rfl ?_
        refine XR_a (op_ld (hci (a + k - d) (by omega)) rfl rfl rfl) rfl rfl ?_
        refine XR_a (op_neq rfl rfl) rfl rfl ?_
        refine XR_nil ?_
        refine X_if rfl (fun h => ?_) (fun h => ?_)
        ·refine X_seq (X_reg (XV rfl rfl rfl (XA rfl rfl rfl (XR_nil ?_))))
         refine X_ret (.cons (.tmp rfl) .nil) ?_
         have he : ¬ b[a + k]'(by omega) = b[a - d + k]'(by omega) := fun hh => by
          have e1 : a + k - d = a - d + k := by omega
          simp only [e1] at h
          rw [hh] at h
          exact h rfl
         rw [if_neg he] at hst
         rw [hL, show min 258 (likeM (b.drop a) (b.drop (a - d))) = k by omega]
         exact ⟨rfl, rfl⟩
        ·refine X_skip (X_reg (XV rfl rfl rfl ?_))
         first | refine XR_a (op_addN (n := 1) rfl rfl (by simp only [inK]; omega)) rfl rfl ?_ | refine XR_a (op_addI rfl rfl (by simp only [inK]; omega)) rfl rfl ?_ | refine XR_a (op_add rfl rfl) rfl rfl ?_
         refine XA rfl rfl rfl (XR_nil (X_blk (X_reg (XV rfl rfl rfl ?_))))
         first | refine XR_a (op_addN (n := 1) rfl rfl (by simp only [inK]; omega)) rfl rfl ?_ | refine XR_a (op_addI rfl rfl (by simp only [inK]; omega)) rfl rfl ?_ | refine XR_a (op_add rfl rfl) rfl rfl ?_
         refine XA rfl rfl rfl (XR_nil ?_)
         exact X_again (k + 1) (.cons rfl (.cons rfl (.cons rfl (.cons rfl (.nil _))))) ⟨rfl, by omega, by omega, by
          have he : b[a + k]'(by omega) = b[a - d + k]'(by omega) := by
           have e1 : a + k - d = a - d + k := by omega
           simp only [e1] at h
           exact UInt8.toNat_inj.1 (by omega)
          rw [if_pos he] at hst
          rw [show a + (k + 1) = a + k + 1 by omega, show a - d + (k + 1) = a - d + k + 1 by omega]; omega⟩ (by omega)
       ·refine X_exit rfl (X_seq (X_reg (XV rfl rfl rfl (XA rfl rfl rfl (XR_nil ?_)))))
        refine X_ret (.cons (.tmp rfl) .nil) ?_
        rw [hL, show min 258 (likeM (b.drop a) (b.drop (a - d))) = k by omega]
        exact ⟨rfl, rfl⟩
      ·refine XR_no rfl rfl (XR_no rfl rfl (XR_a (op_pick_f rfl rfl) rfl rfl (XR_nil (X_else rfl (X_exit rfl (X_seq (X_reg (XV rfl rfl rfl (XA rfl rfl rfl ?_)))))))))
       refine XR_nil ?_
       refine X_ret (.cons (.tmp rfl) .nil) ?_
       rw [likeM_out (by omega)] at hlk
       rw [hL, show min 258 (likeM (b.drop a) (b.drop (a - d))) = k by omega]
       exact ⟨rfl, rfl⟩
theorem candN_out {b : List UInt8} {a : Nat} (h : b.length ≤ a) (n : Nat) : candN b a n = [] := candN_short (by omega) n
theorem best10_ref {n c a dep : Nat} {A : Option Addr} {b : List UInt8} {h0 : Heap} (hr : Rd h0 A (b.map byteV)) (hl : b.length = n) (hn : n ≤ 1099511627776) (ha : a ≤ 1099511627776) (hd : dep ≤ 256) :
  Ret Try.prog 51 [.slice A n c, nV a, nV dep] h0 fun v h' => v = retVal [nV (bestM b a dep).1, nV (bestM b a dep).2] ∧ h0 = h' := by
 obtain ⟨R, hR⟩ : ∃ R, bestM b a dep = R := ⟨_, rfl⟩
 rw [hR]
 unfold bestM cands at hR
 refine ret_of_X Try.func51 rfl rfl fun w0 hw0 => ?_
 simp only [argE, Nat.zero_add, Nat.reduceAdd]
 refine X_seq (X_reg (XA rfl rfl rfl (XA rfl rfl rfl (XR_nil (X_seq (X_reg (XA rfl rfl rfl (XA rfl rfl rfl (XR_nil ?_)))))))))
 refine X_seq (X_seq (X_reg (XV rfl rfl rfl ?_)))
 refine XR_a (op_lss rfl rfl) rfl rfl ?_
 refine XV rfl rfl rfl ?_
 refine XR_if 14 rfl (fun h => ?_) (fun h => ?_)
 ·exact absurd h (by omega)
 ·refine XV rfl rfl rfl (XV rfl rfl rfl ?_)
  refine XR_a (op_len rfl rfl rfl) rfl rfl ?_
  refine XR_a (op_geq rfl rfl) rfl rfl ?_
  refine XR_a (op_pick_f rfl rfl) rfl rfl (XR_nil ?_)
  refine X_if rfl (fun h => ?_) (fun h => ?_)
  ·rw [candN_out (by omega), pickM_nil] at hR
   subst hR
   refine X_seq (X_reg (XA rfl rfl rfl (XA rfl rfl rfl (XR_nil ?_))))
   refine X_ret (.cons (.tmp rfl) (.cons (.tmp rfl) .nil)) ?_
   exact ⟨rfl, rfl⟩
  ·refine X_skip (X_seq (X_seq (X_reg (XA rfl rfl rfl (XR_nil (X_block ?_))))))
   refine X_loop (fun s => s.1) (fun s => [(0, .slice A n c), (1, nV a), (2, nV s.2.1), (8, nV s.2.2.1), (9, nV s.2.2.2), (10, nV (a + 1 - s.1))])
    (fun (s : Nat × Nat × Nat × Nat) hp => h0 = hp ∧ s.1 ≤ a ∧ s.2.1 ≤ 256 ∧ pickM (lenM b a) s.2.1 (candN b a s.1) s.2.2 = R)
    (a, dep, 0, 0) (.cons rfl (.cons rfl (.cons rfl (.cons rfl (.cons rfl (.cons (by simp only [show a + 1 - a = 1 by omega]; rfl) (.nil _))))))) ⟨rfl, Nat.le_refl _, hd, hR⟩ ?_
   rintro ⟨k, dep, n0, d0⟩ hp ⟨rfl, hk, hdp, hp0⟩
   simp only at hk hdp hp0 ⊢
   have hdle : lenM b a (a + 1 - k) ≤ 258 := lenM_le _ _ _
   refine X_seq (X_seq (X_reg (XV rfl rfl rfl (XV rfl rfl rfl ?_))))
   refine XR_a (op_leq rfl rfl) rfl rfl ?_
   refine XV rfl rfl rfl ?_
   refine XR_if 23 rfl (fun h => ?_) (fun h => ?_)
   ·refine XV rfl rfl rfl ?_
    refine XR_a (op_leq rfl rfl) rfl rfl ?_
    refine XR_a (op_pick_t rfl rfl) rfl rfl (XV rfl rfl rfl ?_)
    refine XR_if 27 rfl (fun h => ?_) (fun h => ?_)
    ·refine XV rfl rfl rfl ?_
     refine XR_a (op_gtr rfl rfl) rfl rfl ?_
     refine XR_a (op_pick_t rfl rfl) rfl rfl (XR_nil ?_)
     refine X_if rfl (fun h => ?_) (fun h => ?_)
     ·obtain ⟨j, rfl⟩ : ∃ j, k = j + 1 := ⟨k - 1, by omega⟩
      obtain ⟨dp, rfl⟩ : ∃ j, dep = j + 1 := ⟨dep - 1, by omega⟩
      have e1 : a + 1 - (j + 1) = a - j := by omega
      rw [candN, if_pos (by omega)] at hp0
      rw [e1] at hdle
      refine X_skip (X_seq (X_block (X_seq (X_reg (XV rfl rfl rfl (XV rfl rfl rfl (XV rfl rfl rfl ?_)))))))
      refine XR_wa (opl_call (len10_ref hr hl hn ha (by omega)) rfl (by kernel_rfl)) rfl rfl rfl ?_
      rintro _ _ ⟨rfl, rfl⟩
      rw [e1]
      refine XA rfl rfl rfl (XR_nil (X_seq (X_seq (X_reg (XV rfl rfl rfl ?_)))))
      refine XR_a (op_lss rfl rfl) rfl rfl ?_
      refine XR_nil ?_
      refine X_if rfl (fun h => ?_) (fun h => ?_)
      ·rw [if_neg (by omega)] at hp0
       refine X_exit rfl (X_reg (XV rfl rfl rfl ?_))
       refine XR_a (op_addN (n := 1) rfl rfl (by simp only [inK]; omega)) rfl rfl ?_
       refine XR_as (nV (a + 1 - j)) (congrArg (Value.int .i64) (by omega)) ?_
       refine XA rfl rfl rfl (XR_nil ?_)
       exact X_again (j, dp + 1, n0, d0) (.cons rfl (.cons rfl (.cons rfl (.cons rfl (.cons rfl (.cons rfl (.nil _))))))) ⟨rfl, by simp only; omega, hdp, hp0⟩ (by simp only; omega)
      ·rw [if_pos (by omega), pickM] at hp0
       simp only at hp0
       refine X_skip (X_seq (X_reg (XV rfl rfl rfl ?_)))
       refine XR_a (op_subN (m := dp + 1) (n := 1) rfl rfl (by omega) (by simp only [inK]; omega)) rfl rfl ?_
       refine XR_as (nV dp) (congrArg (Value.int .i64) (by omega)) ?_
       refine XA rfl rfl rfl (XR_nil (X_seq (X_reg (XV rfl rfl rfl (XV rfl rfl rfl ?_)))))
       refine XR_a (op_gtr rfl rfl) rfl rfl ?_
       refine XR_nil ?_
       refine X_if rfl (fun h => ?_) (fun h => ?_)
       ·rw [if_pos (by omega)] at hp0
        refine X_seq (X_reg (XV rfl rfl rfl (XA rfl rfl rfl (XR_nil (X_reg (XV rfl rfl rfl (XA rfl rfl rfl (XR_nil (X_blk ?_)))))))))
        refine X_reg (XV rfl rfl rfl ?_)
        refine XR_a (op_addN (n := 1) rfl rfl (by simp only [inK]; omega)) rfl rfl ?_
        refine XR_as (nV (a + 1 - j)) (congrArg (Value.int .i64) (by omega)) ?_
        refine XA rfl rfl rfl (XR_nil ?_)
        exact X_again (j, dp, lenM b a (a - j), a - j) (.cons rfl (.cons rfl (.cons rfl (.cons rfl (.cons rfl (.cons rfl (.nil _))))))) ⟨rfl, by simp only; omega, by simp only; omega, hp0⟩ (by simp only; omega)
       ·rw [if_neg (by omega)] at hp0
        refine X_skip (X_blk (X_reg (XV rfl rfl rfl ?_)))
        refine XR_a (op_addN (n := 1) rfl rfl (by simp only [inK]; omega)) rfl rfl ?_
        refine XR_as (nV (a + 1 - j)) (congrArg (Value.int .i64) (by omega)) ?_
        refine XA rfl rfl rfl (XR_nil ?_)
        exact X_again (j, dp, n0, d0) (.cons rfl (.cons rfl (.cons rfl (.cons rfl (.cons rfl (.cons rfl (.nil _))))))) ⟨rfl, by simp only; omega, by simp only; omega, hp0⟩ (by simp only; omega)
     ·refine X_exit rfl (X_seq (X_reg (XV rfl rfl rfl (XV rfl rfl rfl (XA rfl rfl rfl (XA rfl rfl rfl (XR_nil ?_)))))))
      refine X_ret (.cons (.tmp rfl) (.cons (.tmp rfl) .nil)) ?_
      obtain rfl : dep = 0 := by omega
      rw [pickM] at hp0
      subst hp0
      exact ⟨rfl, rfl⟩
    ·refine XR_no rfl rfl (XR_no rfl rfl (XR_a (op_pick_f rfl rfl) rfl rfl (XR_nil (X_else rfl (X_exit rfl (X_seq (X_reg (XV rfl rfl rfl (XV rfl rfl rfl ?_)))))))))
     refine XA rfl rfl rfl (XA rfl rfl rfl (XR_nil ?_))
     refine X_ret (.cons (.tmp rfl) (.cons (.tmp rfl) .nil)) ?_
     have hz : candN b a k = [] := by
      cases k with
      | zero => rfl
      | succ k => rw [candN, if_neg (by omega)]
     rw [hz, pickM_nil] at hp0
     subst hp0
     exact ⟨rfl, rfl⟩
   ·refine XR_no rfl rfl (XR_no rfl rfl (XR_a (op_pick_f rfl rfl) rfl rfl (XV rfl rfl rfl (XR_no rfl rfl (XR_no rfl rfl (XR_a (op_pick_f rfl rfl) rfl rfl (XR_nil (X_else rfl (X_exit rfl ?_)))))))))
    refine X_seq (X_reg (XV rfl rfl rfl (XV rfl rfl rfl (XA rfl rfl rfl (XA rfl rfl rfl (XR_nil ?_))))))
    refine X_ret (.cons (.tmp rfl) (.cons (.tmp rfl) .nil)) ?_
    obtain rfl : k = 0 := by omega
    rw [candN, pickM_nil] at hp0
    subst hp0
    exact ⟨rfl, rfl⟩
theorem depth11_ref (lv : Int) (h0 : Heap) : Ret Try.prog 52 [.int .i64 lv] h0 fun v h' => v = nV (depthM lv) ∧ h0 = h' := by
 refine ret_of_X Try.func52 rfl rfl fun w0 hw0 => ?_
 simp only [argE, Nat.zero_add, Nat.reduceAdd]
 refine X_seq (X_reg (XA rfl rfl rfl (XR_nil (X_seq (X_seq (X_reg (XV rfl rfl rfl ?_)))))))
 refine XR_a (op_leq rfl rfl) rfl rfl ?_
 refine XR_nil ?_
 refine X_if rfl (fun h => ?_) (fun h => ?_)
 ·refine X_seq (X_reg (XA rfl rfl rfl (XR_nil ?_)))
  refine X_ret (.cons (.tmp rfl) .nil) ?_
  exact ⟨by rw [show depthM lv = 1 by unfold depthM; rw [if_pos (by omega)]]; rfl, rfl⟩
 ·refine X_skip (X_seq (X_seq (X_reg (XV rfl rfl rfl ?_))))
  refine XR_a (op_eql rfl rfl) rfl rfl ?_
  refine XR_nil ?_
  refine X_if rfl (fun h => ?_) (fun h => ?_)
  ·refine X_seq (X_reg (XA rfl rfl rfl (XR_nil ?_)))
   refine X_ret (.cons (.tmp rfl) .nil) ?_
   exact ⟨by rw [show depthM lv = 4 by unfold depthM; rw [if_neg (by omega), if_pos (by omega)]]; rfl, rfl⟩
  ·refine X_skip (X_seq (X_seq (X_reg (XV rfl rfl rfl ?_))))
   refine XR_a (op_eql rfl rfl) rfl rfl ?_
   refine XR_nil ?_
   refine X_if rfl (fun h => ?_) (fun h => ?_)
   ·refine X_seq (X_reg (XA rfl rfl rfl (XR_nil ?_)))
    refine X_ret (.cons (.tmp rfl) .nil) ?_
    exact ⟨by rw [show depthM lv = 32 by unfold depthM; rw [if_neg (by omega), if_neg (by omega), if_pos (by omega)]]; rfl, rfl⟩
   ·refine X_skip (X_seq (X_reg (XA rfl rfl rfl (XR_nil ?_))))
    refine X_ret (.cons (.tmp rfl) .nil) ?_
    exact ⟨by rw [show depthM lv = 256 by unfold depthM; rw [if_neg (by omega), if_neg (by omega), if_neg (by omega)]]; rfl, rfl⟩
theorem splitF_stepR {b : List UInt8} {lv : Int} {a : Nat} (ha : a < b.length) : splitF b lv (b.length - a) a = tokM b lv a :: splitF b lv (b.length - (a + (tokM b lv a).size)) (a + (tokM b lv a).size) := by
 obtain ⟨_, _, _, h4, _⟩ := tokM_ok (lv := lv) ha
 have hp := Tok.size_pos (tokM b lv a)
 obtain ⟨g, hg⟩ : ∃ g, b.length - a = g + 1 := ⟨b.length - a - 1, by omega⟩
 rw [hg, splitF, if_pos ha, splitF_fuel g (b.length - (a + (tokM b lv a).size)) _ h4 (by omega) (by omega)]
theorem split11_ref {n c : Nat} {lv : Int} {A : Option Addr} {b : List UInt8} {h0 : Heap} (hr : Rd h0 A (b.map byteV)) (hl : b.length = n) (hn : n ≤ 1048576) :
  Ret Try.prog 27 [.slice A n c, .int .i64 lv] h0 fun v h' => St h0.size h0 h' [row 64 3 v ((splitL b lv).flatMap tokV)] := by
 have hdm := depthM_ok lv
 have hpl : (splitL b lv).length ≤ b.length := by
  obtain ⟨_, _, _, h4, _⟩ := splitF_ok (b := b) (lv := lv) b.length 0 (Nat.zero_le _) (by omega)
  unfold splitL; omega
 refine ret_of_X Try.func27 rfl rfl fun w0 hw0 => ?_
 simp only [argE, Nat.zero_add, Nat.reduceAdd]
 refine X_seq (X_reg (XA rfl rfl rfl (XR_nil (X_seq (X_reg (XA rfl rfl rfl (XR_nil (X_seq (X_reg ?_)))))))))
 refine XA rfl rfl rfl (XR_nil (X_seq (X_block ?_)))
 have st := (St.start h0).nilrow 64 3
 refine X_loop (fun s => n - s.1) (fun s => [(0, .slice A n c), (1, .int .i64 lv), (5, s.2.2), (6, nV s.1)])
  (fun (s : Nat × List Tok × Value) hp => s.1 ≤ n ∧ s.2.1 ++ splitF b lv (b.length - s.1) s.1 = splitL b lv ∧ St h0.size h0 hp [row 64 3 s.2.2 (s.2.1.flatMap tokV)])
  (0, [], _) (.cons rfl (.cons rfl (.cons rfl (.cons rfl (.nil _))))) ⟨Nat.zero_le _, rfl, st⟩ ?_
 clear st
 rintro ⟨a, s, v⟩ hp ⟨ha, hs, st⟩
 simp only at ha hs st ⊢
 obtain ⟨A9, n9, c9, rfl, hl9, _⟩ := st.row 0 rfl
 rw [flat_length _ 3 (fun _ => rfl)] at hl9
 have hsl : s.length ≤ (splitL b lv).length := by rw [← hs, List.length_append]; omega
 refine X_seq (X_seq (X_reg (XV rfl rfl rfl (XV rfl rfl rfl ?_))))
 refine XR_a (op_len rfl rfl rfl) rfl rfl ?_
 refine XR_a (op_lss rfl rfl) rfl rfl ?_
 refine XR_nil ?_
 refine X_if rfl (fun h => ?_) (fun h => ?_)
 ·have hal : a < b.length := by omega
  rw [splitF_stepR hal] at hs
  obtain ⟨hx1, hx2, hx3, hx4, _⟩ := tokM_ok (lv := lv) hal
  have hxs := Tok.size_le hx1
  have hxr := hx1
  unfold Tok.right at hxr
  have hxl : 0 ≤ (tokM b lv a).len ∧ (tokM b lv a).len ≤ 258 := by split at hxr <;> omega
  clear hxr
  obtain ⟨T, hT⟩ : ∃ T, tokM b lv a = T := ⟨_, rfl⟩
  rw [hT] at hs hx1 hx2 hx3 hx4 hxs hxl
  unfold tokM at hT
  obtain ⟨R, hR⟩ : ∃ R, bestM b a (depthM lv) = R := ⟨_, rfl⟩
  obtain ⟨R2, hR2⟩ : ∃ R, bestM b (a + 1) (depthM lv) = R := ⟨_, rfl⟩
  have hRb := bestM_ok b a (depthM lv)
  rw [hR, hR2, getD_at (by omega)] at hT
  rw [hR] at hRb
  have hRl := lenM_le b a R.2
  refine X_skip (X_block (X_seq (X_reg (XV rfl rfl rfl (XV rfl rfl rfl (XV rfl rfl rfl ?_))))))
  refine XR_wa (opl_call (depth11_ref _ _) rfl (by kernel_rfl)) rfl rfl rfl ?_
  rintro _ _ ⟨rfl, rfl⟩
  refine XR_wa (opl_call (best10_ref (hr.ext st.low) hl (by omega) (by omega) hdm.2) rfl (by kernel_rfl)) rfl rfl rfl ?_
  rintro _ _ ⟨rfl, rfl⟩
  rw [hR]
  refine XV rfl rfl rfl (XR_a (op_extract rfl rfl) rfl rfl (XR_a (op_extract rfl rfl) rfl rfl (XA rfl rfl rfl (XA rfl rfl rfl (XR_nil (X_seq (X_reg (XV rfl rfl rfl (XV rfl rfl rfl ?_)))))))))
  first | refine XR_a (op_addN (n := 1) rfl rfl (by simp only [inK]; omega)) rfl rfl ?_ | refine XR_a (op_addI rfl rfl (by simp only [inK]; omega)) rfl rfl ?_ | refine XR_a (op_add rfl rfl) rfl rfl ?_
  refine XV rfl rfl rfl ?_
  refine XR_wa (opl_call (depth11_ref _ _) rfl (by kernel_rfl)) rfl rfl rfl ?_
  rintro _ _ ⟨rfl, rfl⟩
  refine XR_wa (opl_call (best10_ref (hr.ext st.low) hl (by omega) (by omega) hdm.2) rfl (by kernel_rfl)) rfl rfl rfl ?_
  rintro _ _ ⟨rfl, rfl⟩
  rw [hR2]
  refine XV rfl rfl rfl (XR_a (op_extract rfl rfl) rfl rfl (XR_a (op_extract rfl rfl) rfl rfl (XA rfl rfl rfl (XA rfl rfl rfl (XR_nil (X_seq (X_reg (XV rfl rfl rfl (XV rfl rfl rfl ?_)))))))))
  refine XR_a (op_build (ps := [(1, nV R.1), (2, nV R.2)]) (cs := (tokV ⟨0, (R.1 : Int), (R.2 : Int)⟩).toArray) rfl rfl) rfl rfl ?_
  refine XR_wa (opl_new rfl) rfl rfl rfl ?_
  rintro _ hp ⟨p11, rfl, hnew⟩
  replace st := st.new hnew
  refine XR_wn (opl_store_whole (us := tokV ⟨0, (R.1 : Int), (R.2 : Int)⟩) st 0 rfl rfl rfl rfl rfl (tokV_one _) rfl) rfl rfl fun _ hp st => ?_
  simp only [List.set_cons_zero, List.set_cons_succ] at st
  refine XR_nil (X_seq (X_seq (X_reg (XV rfl rfl rfl ?_))))
  refine XR_a (op_eql rfl rfl) rfl rfl ?_
  refine XV rfl rfl rfl ?_
  refine XR_if 38 rfl (fun h => ?_) (fun h => ?_)
  ·rw [if_pos (by omega)] at hT
   obtain ⟨g, o, rfl, hc⟩ := (hr.ext st.low).at_ (by rw [List.length_map]; omega)
   have hci := hc a _ (by rw [List.getElem?_map, List.getElem?_eq_getElem (by omega)]; rfl)
   refine XR_no rfl rfl (XR_no rfl rfl (XR_no rfl rfl (XR_no rfl rfl (XR_no rfl rfl (XR_no rfl rfl (XR_no rfl rfl (XR_no rfl rfl (XR_no rfl rfl (XR_no rfl rfl ?_)))))))))
   refine XR_no rfl rfl (XR_a (op_pick_t rfl rfl) rfl rfl (XR_nil (X_then rfl (X_reg (XV rfl rfl rfl (XV rfl rfl rfl ?_))))))
   refine XR_a (op_index1 (i := a) rfl rfl rfl (by omega)) rfl rfl ?_
   refine XR_a (op_ld (hci) rfl rfl rfl) rfl rfl ?_
   refine XR_a (op_build (ps := [(0, .int .u8 ((b[a]'(by omega)).toNat : Int))]) (cs := (tokV ⟨((b[a]'(by omega)).toNat : Int), 0, 0⟩).toArray) rfl rfl) rfl rfl ?_
   refine XR_wn (opl_store_whole (us := tokV ⟨((b[a]'(by omega)).toNat : Int), 0, 0⟩) st 0 rfl rfl rfl rfl rfl (tokV_one _) rfl) rfl rfl fun _ hp st => ?_
   simp only [List.set_cons_zero, List.set_cons_succ] at st
   rw [hT] at st
   refine XR_nil (X_seq (X_reg (XV rfl rfl rfl ?_)))
   refine XR_a (op_ldA (vs := tokV T) (st.cells 0 rfl) rfl rfl rfl rfl) rfl rfl ?_
   refine XR_wa (opl_varA (us := tokV T) rfl rfl rfl rfl (by kernel_rfl)) rfl rfl rfl ?_
   rintro _ hp ⟨Aq, rfl, hxq, hrq⟩
   replace st := st.ext hxq
   refine XR_wa (opl_append st 1 rfl (hrq) (rfl) (tokV_one T) (by rw [flat_length _ 3 (fun _ => rfl)]; simp [tokV]; omega) rfl rfl rfl rfl rfl rfl rfl) rfl rfl rfl fun v hp st => ?_
   simp only [List.set_cons_zero, List.set_cons_succ] at st
   rw [show s.flatMap tokV ++ tokV T = (s ++ [T]).flatMap tokV by rw [List.flatMap_append]; simp] at st
   refine XA rfl rfl rfl (XR_nil (X_seq (X_reg (XV rfl rfl rfl ?_))))
   first | refine XR_a (op_field0 rfl rfl) rfl rfl ?_ | refine XR_a (op_fieldn rfl rfl) rfl rfl ?_
   refine XR_a (op_ld (st.cell 0 (i := 1) rfl rfl) rfl rfl rfl) rfl rfl ?_
   refine XR_a (op_addI rfl rfl (by simp only [inK]; omega)) rfl rfl ?_
   refine XA rfl rfl rfl (XR_nil (X_seq (X_reg ?_)))
   first | refine XR_a (op_field0 rfl rfl) rfl rfl ?_ | refine XR_a (op_fieldn rfl rfl) rfl rfl ?_
   refine XR_a (op_ld (st.cell 0 (i := 1) rfl rfl) rfl rfl rfl) rfl rfl ?_
   refine XR_a (op_eql rfl rfl) rfl rfl ?_
   refine XR_nil ?_
   refine X_if rfl (fun h => ?_) (fun h => ?_)
   ·have hsz : (T.size : Int) = 1 := by omega
    refine X_reg (XV rfl rfl rfl ?_)
    refine XR_a (op_addI rfl rfl (by simp only [inK]; omega)) rfl rfl ?_
    refine XA rfl rfl rfl (XR_nil (X_blk ?_))
    exact X_again (a + T.size, s ++ [T], _) (.cons rfl (.cons rfl (.cons rfl (.cons (congrArg (fun x => some (Value.int .i64 x)) (by simp only; omega)) (.nil _))))) ⟨by simp only; omega, by simp only; rw [List.append_assoc]; exact hs, st.tail⟩ (by simp only; omega)
   ·have hsz : (T.size : Int) = T.len := by omega
    refine X_skip (X_blk ?_)
    exact X_again (a + T.size, s ++ [T], _) (.cons rfl (.cons rfl (.cons rfl (.cons (congrArg (fun x => some (Value.int .i64 x)) (by simp only; omega)) (.nil _))))) ⟨by simp only; omega, by simp only; rw [List.append_assoc]; exact hs, st.tail⟩ (by simp only; omega)
  ·refine XV rfl rfl rfl ?_
   refine XR_a (op_gtr rfl rfl) rfl rfl ?_
   refine XV rfl rfl rfl ?_
   refine XR_if 41 rfl (fun h => ?_) (fun h => ?_)
   ·refine XV rfl rfl rfl ?_
    refine XR_a (op_lss rfl rfl) rfl rfl ?_
    refine XR_a (op_pick_t rfl rfl) rfl rfl (XV rfl rfl rfl ?_)
    refine XR_if 45 rfl (fun h => ?_) (fun h => ?_)
    ·refine XV rfl rfl rfl (XV rfl rfl rfl ?_)
     refine XR_a (op_gtr rfl rfl) rfl rfl ?_
     refine XR_a (op_pick_t rfl rfl) rfl rfl (XR_a (op_pick_f rfl rfl) rfl rfl (XR_nil ?_))
     refine X_if rfl (fun h => ?_) (fun h => ?_)
     ·rw [if_pos (by omega)] at hT
      obtain ⟨g, o, rfl, hc⟩ := (hr.ext st.low).at_ (by rw [List.length_map]; omega)
      have hci := hc a _ (by rw [List.getElem?_map, List.getElem?_eq_getElem (by omega)]; rfl)
      refine X_reg (XV rfl rfl rfl (XV rfl rfl rfl ?_))
      refine XR_a (op_index1 (i := a) rfl rfl rfl (by omega)) rfl rfl ?_
      refine XR_a (op_ld (hci) rfl rfl rfl) rfl rfl ?_
      refine XR_a (op_build (ps := [(0, .int .u8 ((b[a]'(by omega)).toNat : Int))]) (cs := (tokV ⟨((b[a]'(by omega)).toNat : Int), 0, 0⟩).toArray) rfl rfl) rfl rfl ?_
      refine XR_wn (opl_store_whole (us := tokV ⟨((b[a]'(by omega)).toNat : Int), 0, 0⟩) st 0 rfl rfl rfl rfl rfl (tokV_one _) rfl) rfl rfl fun _ hp st => ?_
      simp only [List.set_cons_zero, List.set_cons_succ] at st
      rw [hT] at st
      refine XR_nil (X_seq (X_reg (XV rfl rfl rfl ?_)))
      refine XR_a (op_ldA (vs := tokV T) (st.cells 0 rfl) rfl rfl rfl rfl) rfl rfl ?_
      refine XR_wa (opl_varA (us := tokV T) rfl rfl rfl rfl (by kernel_rfl)) rfl rfl rfl ?_
      rintro _ hp ⟨Aq, rfl, hxq, hrq⟩
      replace st := st.ext hxq
      refine XR_wa (opl_append st 1 rfl (hrq) (rfl) (tokV_one T) (by rw [flat_length _ 3 (fun _ => rfl)]; simp [tokV]; omega) rfl rfl rfl rfl rfl rfl rfl) rfl rfl rfl fun v hp st => ?_
      simp only [List.set_cons_zero, List.set_cons_succ] at st
      rw [show s.flatMap tokV ++ tokV T = (s ++ [T]).flatMap tokV by rw [List.flatMap_append]; simp] at st
      refine XA rfl rfl rfl (XR_nil (X_seq (X_reg (XV rfl rfl rfl ?_))))
      first | refine XR_a (op_field0 rfl rfl) rfl rfl ?_ | refine XR_a (op_fieldn rfl rfl) rfl rfl ?_
      refine XR_a (op_ld (st.cell 0 (i := 1) rfl rfl) rfl rfl rfl) rfl rfl ?_
      refine XR_a (op_addI rfl rfl (by simp only [inK]; omega)) rfl rfl ?_
      refine XA rfl rfl rfl (XR_nil (X_seq (X_reg ?_)))
      first | refine XR_a (op_field0 rfl rfl) rfl rfl ?_ | refine XR_a (op_fieldn rfl rfl) rfl rfl ?_
      refine XR_a (op_ld (st.cell 0 (i := 1) rfl rfl) rfl rfl rfl) rfl rfl ?_
      refine XR_a (op_eql rfl rfl) rfl rfl ?_
      refine XR_nil ?_
      refine X_if rfl (fun h => ?_) (fun h => ?_)
      ·have hsz : (T.size : Int) = 1 := by omega
       refine X_reg (XV rfl rfl rfl ?_)
       refine XR_a (op_addI rfl rfl (by simp only [inK]; omega)) rfl rfl ?_
       refine XA rfl rfl rfl (XR_nil (X_blk ?_))
       exact X_again (a + T.size, s ++ [T], _) (.cons rfl (.cons rfl (.cons rfl (.cons (congrArg (fun x => some (Value.int .i64 x)) (by simp only; omega)) (.nil _))))) ⟨by simp only; omega, by simp only; rw [List.append_assoc]; exact hs, st.tail⟩ (by simp only; omega)
      ·have hsz : (T.size : Int) = T.len := by omega
       refine X_skip (X_blk ?_)
       exact X_again (a + T.size, s ++ [T], _) (.cons rfl (.cons rfl (.cons rfl (.cons (congrArg (fun x => some (Value.int .i64 x)) (by simp only; omega)) (.nil _))))) ⟨by simp only; omega, by simp only; rw [List.append_assoc]; exact hs, st.tail⟩ (by simp only; omega)
     ·rw [if_neg (by omega)] at hT
      rw [hT] at st
      refine X_skip (X_seq (X_reg (XV rfl rfl rfl ?_)))
      refine XR_a (op_ldA (vs := tokV T) (st.cells 0 rfl) rfl rfl rfl rfl) rfl rfl ?_
      refine XR_wa (opl_varA (us := tokV T) rfl rfl rfl rfl (by kernel_rfl)) rfl rfl rfl ?_
      rintro _ hp ⟨Aq, rfl, hxq, hrq⟩
      replace st := st.ext hxq
      refine XR_wa (opl_append st 1 rfl (hrq) (rfl) (tokV_one T) (by rw [flat_length _ 3 (fun _ => rfl)]; simp [tokV]; omega) rfl rfl rfl rfl rfl rfl rfl) rfl rfl rfl fun v hp st => ?_
      simp only [List.set_cons_zero, List.set_cons_succ] at st
      rw [show s.flatMap tokV ++ tokV T = (s ++ [T]).flatMap tokV by rw [List.flatMap_append]; simp] at st
      refine XA rfl rfl rfl (XR_nil (X_seq (X_reg (XV rfl rfl rfl ?_))))
      first | refine XR_a (op_field0 rfl rfl) rfl rfl ?_ | refine XR_a (op_fieldn rfl rfl) rfl rfl ?_
      refine XR_a (op_ld (st.cell 0 (i := 1) rfl rfl) rfl rfl rfl) rfl rfl ?_
      refine XR_a (op_addI rfl rfl (by simp only [inK]; omega)) rfl rfl ?_
      refine XA rfl rfl rfl (XR_nil (X_seq (X_reg ?_)))
      first | refine XR_a (op_field0 rfl rfl) rfl rfl ?_ | refine XR_a (op_fieldn rfl rfl) rfl rfl ?_
      refine XR_a (op_ld (st.cell 0 (i := 1) rfl rfl) rfl rfl rfl) rfl rfl ?_
      refine XR_a (op_eql rfl rfl) rfl rfl ?_
      refine XR_nil ?_
      refine X_if rfl (fun h => ?_) (fun h => ?_)
      ·have hsz : (T.size : Int) = 1 := by omega
       refine X_reg (XV rfl rfl rfl ?_)
       refine XR_a (op_addI rfl rfl (by simp only [inK]; omega)) rfl rfl ?_
       refine XA rfl rfl rfl (XR_nil (X_blk ?_))
       exact X_again (a + T.size, s ++ [T], _) (.cons rfl (.cons rfl (.cons rfl (.cons (congrArg (fun x => some (Value.int .i64 x)) (by simp only; omega)) (.nil _))))) ⟨by simp only; omega, by simp only; rw [List.append_assoc]; exact hs, st.tail⟩ (by simp only; omega)
      ·have hsz : (T.size : Int) = T.len := by omega
       refine X_skip (X_blk ?_)
       exact X_again (a + T.size, s ++ [T], _) (.cons rfl (.cons rfl (.cons rfl (.cons (congrArg (fun x => some (Value.int .i64 x)) (by simp only; omega)) (.nil _))))) ⟨by simp only; omega, by simp only; rw [List.append_assoc]; exact hs, st.tail⟩ (by simp only; omega)
    ·rw [if_neg (by omega)] at hT
     rw [hT] at st
     refine XR_no rfl rfl (XR_no rfl rfl (XR_no rfl rfl (XR_a (op_pick_f rfl rfl) rfl rfl (XR_a (op_pick_f rfl rfl) rfl rfl (XR_nil (X_else rfl (X_skip (X_seq (X_reg ?_)))))))))
     refine XV rfl rfl rfl ?_
     refine XR_a (op_ldA (vs := tokV T) (st.cells 0 rfl) rfl rfl rfl rfl) rfl rfl ?_
     refine XR_wa (opl_varA (us := tokV T) rfl rfl rfl rfl (by kernel_rfl)) rfl rfl rfl ?_
     rintro _ hp ⟨Aq, rfl, hxq, hrq⟩
     replace st := st.ext hxq
     refine XR_wa (opl_append st 1 rfl (hrq) (rfl) (tokV_one T) (by rw [flat_length _ 3 (fun _ => rfl)]; simp [tokV]; omega) rfl rfl rfl rfl rfl rfl rfl) rfl rfl rfl fun v hp st => ?_
     simp only [List.set_cons_zero, List.set_cons_succ] at st
     rw [show s.flatMap tokV ++ tokV T = (s ++ [T]).flatMap tokV by rw [List.flatMap_append]; simp] at st
     refine XA rfl rfl rfl (XR_nil (X_seq (X_reg (XV rfl rfl rfl ?_))))
     first | refine XR_a (op_field0 rfl rfl) rfl rfl ?_ | refine XR_a (op_fieldn rfl rfl) rfl rfl ?_
     refine XR_a (op_ld (st.cell 0 (i := 1) rfl rfl) rfl rfl rfl) rfl rfl ?_
     refine XR_a (op_addI rfl rfl (by simp only [inK]; omega)) rfl rfl ?_
     refine XA rfl rfl rfl (XR_nil (X_seq (X_reg ?_)))
     first | refine XR_a (op_field0 rfl rfl) rfl rfl ?_ | refine XR_a (op_fieldn rfl rfl) rfl rfl ?_
     refine XR_a (op_ld (st.cell 0 (i := 1) rfl rfl) rfl rfl rfl) rfl rfl ?_
     refine XR_a (op_eql rfl rfl) rfl rfl ?_
     refine XR_nil ?_
     refine X_if rfl (fun h => ?_) (fun h => ?_)
     ·have hsz : (T.size : Int) = 1 := by omega
      refine X_reg (XV rfl rfl rfl ?_)
      refine XR_a (op_addI rfl rfl (by simp only [inK]; omega)) rfl rfl ?_
      refine XA rfl rfl rfl (XR_nil (X_blk ?_))
      exact X_again (a + T.size, s ++ [T], _) (.cons rfl (.cons rfl (.cons rfl (.cons (congrArg (fun x => some (Value.int .i64 x)) (by simp only; omega)) (.nil _))))) ⟨by simp only; omega, by simp only; rw [List.append_assoc]; exact hs, st.tail⟩ (by simp only; omega)
     ·have hsz : (T.size : Int) = T.len := by omega
      refine X_skip (X_blk ?_)
      exact X_again (a + T.size, s ++ [T], _) (.cons rfl (.cons rfl (.cons rfl (.cons (congrArg (fun x => some (Value.int .i64 x)) (by simp only; omega)) (.nil _))))) ⟨by simp only; omega, by simp only; rw [List.append_assoc]; exact hs, st.tail⟩ (by simp only; omega)
   ·rw [if_neg (by omega)] at hT
    rw [hT] at st
    refine XR_no rfl rfl (XR_no rfl rfl (XR_a (op_pick_f rfl rfl) rfl rfl (XV rfl rfl rfl (XR_no rfl rfl (XR_no rfl rfl (XR_no rfl rfl (XR_a (op_pick_f rfl rfl) rfl rfl (XR_a (op_pick_f rfl rfl) rfl rfl (XR_nil ?_)))))))))
    refine X_else rfl (X_skip (X_seq (X_reg (XV rfl rfl rfl ?_))))
    refine XR_a (op_ldA (vs := tokV T) (st.cells 0 rfl) rfl rfl rfl rfl) rfl rfl ?_
    refine XR_wa (opl_varA (us := tokV T) rfl rfl rfl rfl (by kernel_rfl)) rfl rfl rfl ?_
    rintro _ hp ⟨Aq, rfl, hxq, hrq⟩
    replace st := st.ext hxq
    refine XR_wa (opl_append st 1 rfl (hrq) (rfl) (tokV_one T) (by rw [flat_length _ 3 (fun _ => rfl)]; simp [tokV]; omega) rfl rfl rfl rfl rfl rfl rfl) rfl rfl rfl fun v hp st => ?_
    simp only [List.set_cons_zero, List.set_cons_succ] at st
    rw [show s.flatMap tokV ++ tokV T = (s ++ [T]).flatMap tokV by rw [List.flatMap_append]; simp] at st
    refine XA rfl rfl rfl (XR_nil (X_seq (X_reg (XV rfl rfl rfl ?_))))
    first | refine XR_a (op_field0 rfl rfl) rfl rfl ?_ | refine XR_a (op_fieldn rfl rfl) rfl rfl ?_
    refine XR_a (op_ld (st.cell 0 (i := 1) rfl rfl) rfl rfl rfl) rfl rfl ?_
    refine XR_a (op_addI rfl rfl (by simp only [inK]; omega)) rfl rfl ?_
    refine XA rfl rfl rfl (XR_nil (X_seq (X_reg ?_)))
    first | refine XR_a (op_field0 rfl rfl) rfl rfl ?_ | refine XR_a (op_fieldn rfl rfl) rfl rfl ?_
    refine XR_a (op_ld (st.cell 0 (i := 1) rfl rfl) rfl rfl rfl) rfl rfl ?_
    refine XR_a (op_eql rfl rfl) rfl rfl ?_
    refine XR_nil ?_
    refine X_if rfl (fun h => ?_) (fun h => ?_)
    ·have hsz : (T.size : Int) = 1 := by omega
     refine X_reg (XV rfl rfl rfl ?_)
     refine XR_a (op_addI rfl rfl (by simp only [inK]; omega)) rfl rfl ?_
     refine XA rfl rfl rfl (XR_nil (X_blk ?_))
     exact X_again (a + T.size, s ++ [T], _) (.cons rfl (.cons rfl (.cons rfl (.cons (congrArg (fun x => some (Value.int .i64 x)) (by simp only; omega)) (.nil _))))) ⟨by simp only; omega, by simp only; rw [List.append_assoc]; exact hs, st.tail⟩ (by simp only; omega)
    ·have hsz : (T.size : Int) = T.len := by omega
     refine X_skip (X_blk ?_)
     exact X_again (a + T.size, s ++ [T], _) (.cons rfl (.cons rfl (.cons rfl (.cons (congrArg (fun x => some (Value.int .i64 x)) (by simp only; omega)) (.nil _))))) ⟨by simp only; omega, by simp only; rw [List.append_assoc]; exact hs, st.tail⟩ (by simp only; omega)
 ·refine X_exit rfl (X_seq (X_reg (XV rfl rfl rfl (XA rfl rfl rfl (XR_nil ?_)))))
  refine X_ret (.cons (.tmp rfl) .nil) ?_
  have he : splitF b lv (b.length - a) a = [] := by rw [show b.length - a = 0 by omega]; rfl
  rw [he, List.append_nil] at hs
  rw [← hs]
  exact st
end Go.Bn
end

section
set_option linter.unusedVariables false
set_option linter.unusedSimpArgs false
set_option maxHeartbeats 4000000
set_option maxRecDepth 20000
namespace Go.Bn
open Go Proofs
theorem weights13_ref {n c : Nat} {A : Option Addr} {ts : List Tok} {h0 : Heap} (hr : Rd h0 A (ts.flatMap tokV)) (hl : ts.length = n) (hR : rightL ts) (hby : ∀ t ∈ ts, 0 ≤ t.byte ∧ t.byte < 256) :
  Ret Try.prog 45 [.slice A n c] h0 fun v h' => ∃ w1 w2, v = retVal [w1, w2] ∧ St h0.size h0 h' [row 3 1 w1 ((firstW (ts.map splitY)).map nV), row 3 1 w2 ((secondW (ts.map splitY)).map nV)] := by
 have hn := hR.1
 obtain ⟨ys, hys⟩ : ∃ ys, ts.map splitY = ys := ⟨_, rfl⟩
 have hyl : ys.length = n := by rw [← hys, List.length_map]; exact hl
 rw [hys]
 refine ret_of_X Try.func45 rfl rfl fun w0 hw0 => ?_
 simp only [argE, Nat.zero_add, Nat.reduceAdd]
 have st := St.start h0
 refine X_seq (X_reg (XA rfl rfl rfl (XA rfl rfl rfl (XR_nil (X_seq ?_)))))
 refine X_draw_two byKind [] 0 [2, 1, 3] 1 [0, 2, 3] (by kernel_rfl) (by kernel_rfl) rfl rfl rfl ?_
 refine XR_nil ?_
 refine X_alt (σ := Value × Value) (fun s => [(0, .slice A n c), (4, s.1), (5, s.2)]) (fun s hp => St h0.size h0 hp [row 3 1 s.1 (List.replicate 273 (iV 0)), row 3 1 s.2 (List.replicate 30 (iV 0))]) ?_ ?_ ?_
 ·refine XR_ga (opl_mk (by decide) rfl rfl rfl) rfl rfl rfl (fun _ _ e => e.1) ?_
  rintro v hp hnew
  have st := st.new hnew
  refine XA rfl rfl rfl ?_
  refine XR_ga (opl_mk (by decide) rfl rfl rfl) rfl rfl rfl (fun _ _ e => e.1) ?_
  rintro v hp hnew
  have st := st.new hnew
  refine XA rfl rfl rfl (XR_nil ?_)
  exact X_meet (_, _) (.cons rfl (.cons rfl (.cons rfl (.nil _)))) (St.re st 2 [1, 0] (by decide))
 ·refine XR_ga (opl_mk (by decide) rfl rfl rfl) rfl rfl rfl (fun _ _ e => e.1) ?_
  rintro v hp hnew
  have st := st.new hnew
  refine XR_ga (opl_mk (by decide) rfl rfl rfl) rfl rfl rfl (fun _ _ e => e.1) ?_
  rintro v hp hnew
  have st := st.new hnew
  refine XA rfl rfl rfl (XA rfl rfl rfl (XR_nil ?_))
  exact X_meet (_, _) (.cons rfl (.cons rfl (.cons rfl (.nil _)))) st
 rintro ⟨v1, v2⟩ hp st
 simp only at st ⊢
 obtain ⟨ga, na, ca, rfl, hla, _⟩ := st.row0 0 rfl (by rw [List.length_replicate]; omega)
 obtain ⟨gb, nb, cb, rfl, hlb, _⟩ := st.row0 1 rfl (by rw [List.length_replicate]; omega)
 obtain rfl : na = 273 := by rw [List.length_replicate] at hla; omega
 obtain rfl : nb = 30 := by rw [List.length_replicate] at hlb; omega
 refine X_seq (X_reg (XV rfl rfl rfl ?_))
 refine XR_a (op_index1 (i := 256) rfl rfl rfl (by omega)) rfl rfl ?_
 refine XR_wn (opl_store_row (o := 0) (i := 256) (v := nV 1) st 0 rfl (congrArg (fun x => some (Value.pointer (some ⟨ga, x, none⟩))) (by omega)) rfl (by simp) rfl rfl) rfl rfl fun _ hp st => ?_
 simp only [List.set_cons_zero, List.set_cons_succ] at st
 rw [show (List.replicate 273 (iV 0)).set 256 (nV 1) = (foldW (ys.take 0)).1.map nV by show _ = ((List.replicate 273 0).set 256 1).map nV; rw [List.map_set, List.map_replicate]; rfl, show List.replicate 30 (iV 0) = (foldW (ys.take 0)).2.1.map nV by show _ = (List.replicate 30 0).map nV; rw [List.map_replicate]; rfl] at st
 refine XR_nil (X_seq (X_reg (XA rfl rfl rfl (XR_nil (X_seq (X_seq (X_reg (XA rfl rfl rfl (XR_nil ?_)))))))))
 refine X_block ?_
 refine X_loop (fun i => n - i) (fun i => [(0, .slice A n c), (4, .slice (some ⟨ga, 0, none⟩) 273 ca), (5, .slice (some ⟨gb, 0, none⟩) 30 cb), (6, .bool (decide ((foldW (ys.take i)).2.2 = 0))), (7, nV i)])
  (fun (i : Nat) hp => i ≤ n ∧ St h0.size h0 hp [row 3 1 (.slice (some ⟨ga, 0, none⟩) 273 ca) ((foldW (ys.take i)).1.map nV), row 3 1 (.slice (some ⟨gb, 0, none⟩) 30 cb) ((foldW (ys.take i)).2.1.map nV)])
  0 (.cons rfl (.cons rfl (.cons rfl (.cons rfl (.cons rfl (.nil _)))))) ⟨Nat.zero_le _, st⟩ ?_
 clear st
 rintro i hp ⟨hi, st⟩
 obtain ⟨W, hW⟩ : ∃ W, foldW (ys.take i) = W := ⟨_, rfl⟩
 have hWk := foldW_ok (ys.take i)
 rw [hW] at st hWk ⊢
 obtain ⟨k1, k2, k3, k4, k5⟩ := hWk
 rw [List.length_take] at k3 k4 k5
 refine X_seq (X_seq (X_reg (XV rfl rfl rfl (XV rfl rfl rfl ?_))))
 refine XR_a (op_len rfl rfl rfl) rfl rfl ?_
 refine XR_a (op_lss rfl rfl) rfl rfl ?_
 refine XR_nil ?_
 refine X_if rfl (fun h => ?_) (fun h => ?_)
 ·have hil : i < ts.length := by omega
  have hil2 : i < ys.length := by omega
  obtain ⟨t, ht⟩ : ∃ t, ts[i] = t := ⟨_, rfl⟩
  have htm : t ∈ ts := ht ▸ List.getElem_mem hil
  have hy : ys[i] = splitY t := by subst hys; rw [List.getElem_map, ht]
  obtain ⟨_, o1, o2, _, o3, o4⟩ := join_split (hR.2 t htm) (hby t htm)
  obtain ⟨y, hye⟩ : ∃ y, splitY t = y := ⟨_, rfl⟩
  rw [hye] at hy o1 o2 o3 o4
  obtain ⟨gy, oy, rfl, hcy⟩ := Rd.flat tokV 3 (hr.ext st.low) (fun _ => rfl) (by omega) (by omega)
  have hcx := hcy i hil
  rw [ht] at hcx
  have hsn : foldW (ys.take (i + 1)) = stepW W y := by rw [List.take_succ_eq_append_getElem hil2, hy, foldW_snoc, hW]
  obtain ⟨ya, hya⟩ : ∃ a : Nat, y.a.num = a := ⟨y.a.num.toNat, by omega⟩
  obtain ⟨yb, hyb⟩ : ∃ a : Nat, y.b.num = a := ⟨y.b.num.toNat, by omega⟩
  have hga : W.1[ya]? = some (W.1.getD ya 0) := by rw [List.getD_eq_getElem?_getD, List.getElem?_eq_getElem (by omega)]; rfl
  have hgb : W.2.1[yb]? = some (W.2.1.getD yb 0) := by rw [List.getD_eq_getElem?_getD, List.getElem?_eq_getElem (by omega)]; rfl
  have hma := le_sum (List.mem_of_getElem? hga)
  have hmb := le_sum (List.mem_of_getElem? hgb)
  refine X_skip (X_seq (X_block (X_seq (X_reg (XV rfl rfl rfl (XV rfl rfl rfl ?_))))))
  refine XR_a (op_index (i := i) rfl rfl rfl (by omega)) rfl rfl ?_
  refine XR_a (op_ldA (vs := tokV t) hcx rfl rfl rfl rfl) rfl rfl ?_
  refine XR_wa (opl_call (split_ref (hR.2 t htm) (hby t htm) _) rfl (by kernel_rfl)) rfl rfl rfl ?_
  rintro _ hp4 ⟨rfl, hx4⟩
  replace st := st.ext hx4
  rw [hye]
  refine XV rfl rfl rfl (XR_a (op_extract rfl rfl) rfl rfl (XR_a (op_extract rfl rfl) rfl rfl (XR_a (op_extract rfl rfl) rfl rfl ?_)))
  refine XR_wa (opl_new rfl) rfl rfl rfl ?_
  rintro _ hp1 ⟨p8, rfl, hnew⟩
  replace st := st.new hnew
  refine XR_wa (opl_new rfl) rfl rfl rfl ?_
  rintro _ hp1 ⟨p9, rfl, hnew⟩
  replace st := st.new hnew
  refine XR_wn (opl_store_whole (us := clsV y.a) st 1 rfl rfl rfl rfl rfl (clsV_one _) rfl) rfl rfl fun _ hp st => ?_
  simp only [List.set_cons_zero, List.set_cons_succ] at st
  refine XR_wn (opl_store_whole (us := clsV y.b) st 0 rfl rfl rfl rfl rfl (clsV_one _) rfl) rfl rfl fun _ hp st => ?_
  simp only [List.set_cons_zero, List.set_cons_succ] at st
  obtain ⟨_, _, he1, hc1⟩ := (st.rdS 2 rfl).2.at_ (by rw [List.length_map]; omega)
  cases he1
  have hov := hc1 ya (nV (W.1.getD ya 0)) (by rw [List.getElem?_map, hga]; rfl)
  refine XA rfl rfl rfl (XR_nil (X_seq (X_reg (XV rfl rfl rfl ?_))))
  first | refine XR_a (op_field0 rfl rfl) rfl rfl ?_ | refine XR_a (op_fieldn rfl rfl) rfl rfl ?_
  refine XR_a (op_ld (st.cell 1 (i := 0) rfl rfl) rfl rfl rfl) rfl rfl ?_
  refine XR_as (nV ya) (congrArg (Value.int .i64) hya) ?_
  refine XR_a (op_index1 (i := ya) rfl rfl rfl (by omega)) rfl rfl ?_
  refine XR_a (op_ld (hov) rfl rfl rfl) rfl rfl ?_
  first | refine XR_a (op_addN (n := 1) rfl rfl (by simp only [inK]; omega)) rfl rfl ?_ | refine XR_a (op_addI rfl rfl (by simp only [inK]; omega)) rfl rfl ?_ | refine XR_a (op_add rfl rfl) rfl rfl ?_
  refine XR_a (op_index1 (i := ya) rfl rfl rfl (by omega)) rfl rfl ?_
  refine XR_wn (opl_store_row (o := 0) (i := ya) (v := nV (W.1.getD ya 0 + 1)) st 2 rfl (congrArg (fun x => some (Value.pointer (some ⟨ga, x, none⟩))) (by omega)) rfl (by simp; omega) rfl rfl) rfl rfl fun _ hp st => ?_
  simp only [List.set_cons_zero, List.set_cons_succ] at st
  rw [map_set_nV] at st
  refine XR_nil (X_seq (X_reg (XV rfl rfl rfl ?_)))
  refine XR_as (.bool (decide (y.m = true))) (congrArg Value.bool (by cases y.m <;> rfl)) ?_
  refine XR_nil ?_
  refine X_if rfl (fun h => ?_) (fun h => ?_)
  ·have hs2 : foldW (ys.take (i + 1)) = (W.1.set ya (W.1.getD ya 0 + 1), W.2.1.set yb (W.2.1.getD yb 0 + 1), W.2.2 + 1) := by
    rw [hsn]; simp only [stepW, addAt, hya, hyb, Int.toNat_natCast]; rw [if_pos h, if_pos h]
   obtain ⟨_, _, he2, hc2⟩ := (st.rdS 3 rfl).2.at_ (by rw [List.length_map]; omega)
   cases he2
   have hov2 := hc2 yb (nV (W.2.1.getD yb 0)) (by rw [List.getElem?_map, hgb]; rfl)
   refine X_seq (X_reg (XV rfl rfl rfl ?_))
   first | refine XR_a (op_field0 rfl rfl) rfl rfl ?_ | refine XR_a (op_fieldn rfl rfl) rfl rfl ?_
   refine XR_a (op_ld (st.cell 0 (i := 0) rfl rfl) rfl rfl rfl) rfl rfl ?_
   refine XR_as (nV yb) (congrArg (Value.int .i64) hyb) ?_
   refine XR_a (op_index1 (i := yb) rfl rfl rfl (by omega)) rfl rfl ?_
   refine XR_a (op_ld (hov2) rfl rfl rfl) rfl rfl ?_
   first | refine XR_a (op_addN (n := 1) rfl rfl (by simp only [inK]; omega)) rfl rfl ?_ | refine XR_a (op_addI rfl rfl (by simp only [inK]; omega)) rfl rfl ?_ | refine XR_a (op_add rfl rfl) rfl rfl ?_
   refine XR_a (op_index1 (i := yb) rfl rfl rfl (by omega)) rfl rfl ?_
   refine XR_wn (opl_store_row (o := 0) (i := yb) (v := nV (W.2.1.getD yb 0 + 1)) st 3 rfl (congrArg (fun x => some (Value.pointer (some ⟨gb, x, none⟩))) (by omega)) rfl (by simp; omega) rfl rfl) rfl rfl fun _ hp st => ?_
   simp only [List.set_cons_zero, List.set_cons_succ] at st
   rw [map_set_nV] at st
   refine XR_nil (X_reg (XA rfl rfl rfl (XR_nil (X_blk (X_reg (XV rfl rfl rfl ?_))))))
   first | refine XR_a (op_addN (n := 1) rfl rfl (by simp only [inK]; omega)) rfl rfl ?_ | refine XR_a (op_addI rfl rfl (by simp only [inK]; omega)) rfl rfl ?_ | refine XR_a (op_add rfl rfl) rfl rfl ?_
   refine XA rfl rfl rfl (XR_nil ?_)
   exact X_again (i + 1) (.cons rfl (.cons rfl (.cons rfl (.cons (by rw [hs2]; rfl) (.cons rfl (.nil _)))))) ⟨by omega, by rw [hs2]; exact st.tail.tail⟩ (by omega)
  ·have hs2 : foldW (ys.take (i + 1)) = (W.1.set ya (W.1.getD ya 0 + 1), W.2.1, W.2.2) := by
    rw [hsn]; simp only [stepW, addAt, hya, Int.toNat_natCast]; rw [if_neg h, if_neg h]
   refine X_skip (X_blk (X_reg (XV rfl rfl rfl ?_)))
   first | refine XR_a (op_addN (n := 1) rfl rfl (by simp only [inK]; omega)) rfl rfl ?_ | refine XR_a (op_addI rfl rfl (by simp only [inK]; omega)) rfl rfl ?_ | refine XR_a (op_add rfl rfl) rfl rfl ?_
   refine XA rfl rfl rfl (XR_nil ?_)
   exact X_again (i + 1) (.cons rfl (.cons rfl (.cons rfl (.cons (by rw [hs2]; rfl) (.cons rfl (.nil _)))))) ⟨by omega, by rw [hs2]; exact st.tail.tail⟩ (by omega)
 ·rw [List.take_of_length_le (by omega)] at hW
  refine X_exit rfl (X_seq (X_seq (X_reg (XV rfl rfl rfl (XR_nil ?_)))))
  refine X_if rfl (fun h => ?_) (fun h => ?_)
  ·have hs : secondW ys = W.2.1.set 0 1 := by unfold secondW; rw [hW, if_pos h]
   refine X_reg (XV rfl rfl rfl ?_)
   refine XR_a (op_index1 (i := 0) rfl rfl rfl (by omega)) rfl rfl ?_
   refine XR_wn (opl_store_row (o := 0) (i := 0) (v := nV 1) st 1 rfl (congrArg (fun x => some (Value.pointer (some ⟨gb, x, none⟩))) (by omega)) rfl (by simp; omega) rfl rfl) rfl rfl fun _ hp st => ?_
   simp only [List.set_cons_zero, List.set_cons_succ] at st
   rw [map_set_nV] at st
   refine XR_nil (X_seq (X_reg (XV rfl rfl rfl (XV rfl rfl rfl (XA rfl rfl rfl (XA rfl rfl rfl (XR_nil ?_)))))))
   refine X_ret (.cons (.tmp rfl) (.cons (.tmp rfl) .nil)) ?_
   exact ⟨_, _, rfl, by rw [hs, show firstW ys = W.1 from congrArg (·.1) hW]; exact st⟩
  ·have hs : secondW ys = W.2.1 := by unfold secondW; rw [hW, if_neg h]
   refine X_skip (X_seq (X_reg (XV rfl rfl rfl (XV rfl rfl rfl (XA rfl rfl rfl (XA rfl rfl rfl (XR_nil ?_)))))))
   refine X_ret (.cons (.tmp rfl) (.cons (.tmp rfl) .nil)) ?_
   exact ⟨_, _, rfl, by rw [hs, show firstW ys = W.1 from congrArg (·.1) hW]; exact st⟩
end Go.Bn
end

section
set_option linter.unusedVariables false
set_option linter.unusedSimpArgs false
namespace Go.Bn
open Go
section
variable {P : Program} {E : Env} {hp : Heap} {cl : Cls} {d : Option Tmp} {ty : TypeId} {pos : String} {af : Array Edge} {g : Option (Nat × Bool)}
variable {x y z : Operand} {t t' : TypeId}
theorem opl_append_lit {e sz b m c : Nat} {zs : List Value} {news : List Value} {A : Option Addr} {B gb : Nat} {h0 : Heap} {rs : List Res} (st : St B h0 hp rs) (j : Nat) (hj : rs[j]? = some (row e sz (.slice (some ⟨gb, 0, none⟩) 0 0) [])) (hn : Rd hp A news) (hl : news.length = m * sz)
  (h1 : ∀ u ∈ news, Value.one u = true) (hb : news.length * b ≤ 140737488355328) (hx : ev E x = some (.slice (some ⟨gb, 0, none⟩) 0 0)) (hy : ev E y = some (.slice A m c)) (ht : sliceI P t = some (e, sz, b, zs)) (hzs : Nat.beq zs.length sz = true) (hsz : Nat.blt 0 sz = true) (hb0 : Nat.blt 0 b = true)
  {ts : Array TypeId} (hts : ts = #[t, t]) :
  OpL P ⟨d, .call ⟨.builtin .append, #[x, y], ts⟩, ty, pos, af, g⟩ E hp (fun v' hp' => Ext hp hp' ∧ St B h0 hp' (rs.set j (row e sz v' news))) := by
 intro n a w ho hw K hK
 subst hw hts
 obtain ⟨S, hS, _⟩ := st.at_ hj
 have hsz' : 0 < sz := by simpa [Nat.blt_eq] using hsz
 have hb0' : 0 < b := by simpa [Nat.blt_eq] using hb0
 obtain ⟨v', w', hrun, hinv, hupd⟩ := run_append (ty := ty) (c := c) ht (Nat.eq_of_beq_eq_true hzs) hsz' hS hn hl h1 hb0' (by simpa using hb)
 have hrun' : (execOp a.eval ⟨d, .call ⟨.builtin .append, #[x, y], #[t, t]⟩, ty, pos, af, g⟩).run P w = .ok (.value v') w' := by
  simp [execOp, resolve, ho.eval hx, ho.eval hy, invoke, builtin, hrun]
 simp only [Oper.wp, hrun', Oper.upon]
 refine hK v' w' hinv ⟨?_, by have := st.upd hj hupd; simpa using this⟩
 obtain ⟨i, z', hu, hi, hz, hsi, hbi, hzc⟩ := sliceI_spec ht
 subst hsi
 by_cases hm : m = 0
 ·subst hm
  have hne : news = [] := List.eq_nil_of_length_eq_zero (by simpa using hl)
  subst hne
  have h2 : (Builtin.append_ #[t, t] ty #[.slice (some ⟨gb, 0, none⟩) 0 0, .slice A 0 c]).run P w = .ok (.slice (some ⟨gb, 0, none⟩) 0 0) w := by
   cases A <;> simp [Builtin.append_, run_underlying hu, sizeOf, typeInfo, hi, Builtin.lenOf, Builtin.firstCells, storeCells, loadCells, loadCellsFrom]
  have h3 := hrun.symm.trans h2
  cases h3
  exact Ext.refl _
 ·cases A with
  | none =>
   exfalso
   rcases hn with h | ⟨_, _, h, _⟩
   ·subst h
    have := Nat.mul_pos (Nat.pos_of_ne_zero hm) hsz'
    simp at hl; omega
   ·cases h
  | some aa =>
   have hcell := rd_cell hn rfl
   have q2 : m * i.bytes ≤ 140737488355328 := by
    have h3 : m ≤ news.length := by rw [hl]; exact Nat.le_mul_of_pos_right _ hsz'
    rw [hbi]
    exact Nat.le_trans (Nat.mul_le_mul_right _ h3) hb
   have q1 : m ≤ 140737488355328 := Nat.le_trans (Nat.le_mul_of_pos_right _ (by rw [hbi]; exact hb0')) q2
   have h2 := run_append_grow (P := P) w t ty e i z' hu hi hz ⟨gb, 0, none⟩ 0 0 [] (by simp) (fun j u hu => by simp at hu) aa m c news hl hcell (by omega) (by omega) (growslice_fits (by omega) (by simpa using q2))
   have h3 := hrun.symm.trans h2
   cases h3
   exact ext_push _ _
theorem opl_lit0p {e sz b : Nat} {zs : List Value} (ht : sliceI P t = some (e, sz, b, zs)) : OpL P ⟨d, .buildSlice t 0 #[], ty, pos, af, g⟩ E hp (fun u hp' => ∃ gb, u = .slice (some ⟨gb, 0, none⟩) 0 0 ∧ New (row e sz (.slice (some ⟨gb, 0, none⟩) 0 0) []) hp hp') := by
 intro n a w ho hw K hK
 subst hw
 obtain ⟨i, z, hu, hi, hz, hsz, _, hzc⟩ := sliceI_spec ht
 have hrun : (execOp a.eval ⟨d, .buildSlice t 0 #[], ty, pos, af, g⟩).run P w = .ok (.value (.slice (some ⟨w.heap.size, 0, none⟩) 0 0)) (w.alloc (.cells #[] e)) := by
  simp only [execOp, Instr.buildSlice, Sem.run_bind, run_underlying hu, Result.andThen_ok, sizeOf, typeInfo, program, Sem.run, hi, Sem.run_pure, Nat.zero_mul, if_true, List.map_toArray]
  simp [Instr.fill, run_newRow]
  exact congrArg (fun x => w.alloc (.cells x e)) (Array.ext (by simp) (fun i h1 _ => absurd h1 (by simp)))
 simp only [Oper.wp, hrun, Oper.upon]
 refine hK _ _ ⟨rfl, rfl, rfl⟩ ⟨w.heap.size, rfl, ?_⟩
 have := new_row w.heap e sz 0 [] (by simp) (by simp [maxLen])
 exact this
end
end Go.Bn
end
