/- Packed texts of a claim: what its theorem uses, joined. -/
import Derived.Test.YtoodeecmplpndaaPkS7x7
section
set_option linter.unusedVariables false
set_option linter.unusedSimpArgs false
set_option maxHeartbeats 4000000
set_option maxRecDepth 20000
namespace Go.Bn
open Go Proofs
def SymOK (B k : Nat) (F : List Res) (caps : Array Value) (key : Nat → Nat) (good : Nat → Prop) (N : Nat) : Prop :=
  ∀ (g n c a m b : Nat) (X U V Y : List Nat) (h0 : Heap), St B h0 h0 (rowN g n c (X ++ (U ++ (V ++ Y))) :: F) → CmpOK B h0 F k caps key good → X.length = a → X.length + U.length = m → m + V.length = b → 1 ≤ U.length → 1 ≤ V.length →
    U.length + V.length ≤ N → PreM key U V → (∀ x ∈ U, good x) → (∀ x ∈ V, good x) → n ≤ 1099511627776 →
    Ret Try.prog 138 [.slice (some ⟨g, 0, none⟩) n c, nV a, nV m, nV b, .func (.func k) #[] caps] h0 fun _ h' => ∃ W, Mrg key U V W ∧ St B h0 h' (rowN g n c (X ++ (W ++ Y)) :: F)
theorem symMerge_step {B k N : Nat} {F : List Res} {caps : Array Value} {key : Nat → Nat} {good : Nat → Prop} (ih : SymOK B k F caps key good N)
  {g n c a m b : Nat} {X U V Y : List Nat} {h0 : Heap} (st0 : St B h0 h0 (rowN g n c (X ++ (U ++ (V ++ Y))) :: F)) (hcmp : CmpOK B h0 F k caps key good) (ha : X.length = a) (hm : X.length + U.length = m) (hb : m + V.length = b) (hu : 1 ≤ U.length) (hv : 1 ≤ V.length)
  (hN : U.length + V.length ≤ N + 1) (hpre : PreM key U V) (hgU : ∀ x ∈ U, good x) (hgV : ∀ x ∈ V, good x) (hn : n ≤ 1099511627776) :
  Ret Try.prog 138 [.slice (some ⟨g, 0, none⟩) n c, nV a, nV m, nV b, .func (.func k) #[] caps] h0 fun _ h' => ∃ W, Mrg key U V W ∧ St B h0 h' (rowN g n c (X ++ (W ++ Y)) :: F) := by
 have hln := st0.natLen
 simp only [List.length_append] at hln
 refine ret_of_X Try.func138 rfl rfl fun w0 hw0 => ?_
 simp only [argE, Nat.zero_add, Nat.reduceAdd]
 refine X_seq (X_seq (X_reg (XV rfl rfl rfl (XV rfl rfl rfl ?_))))
 first | refine XR_a (op_subN rfl rfl (by omega) (by simp only [inK]; omega)) rfl rfl ?_ | refine XR_a (op_subI rfl rfl (by simp only [inK]; omega)) rfl rfl ?_ | refine XR_a (op_sub rfl rfl) rfl rfl ?_
 refine XR_a (op_eql rfl rfl) rfl rfl ?_
 refine XR_nil ?_
 refine X_if rfl (fun h => ?_) (fun h => ?_)
 ·obtain ⟨u, rfl⟩ : ∃ u, U = [u] := List.length_eq_one_iff.1 (by omega)
  have hul : [u].length = 1 := rfl
  have hgu := hgU u (by simp)
  refine X_seq (X_reg (XV rfl rfl rfl (XA rfl rfl rfl (XR_nil (X_seq (X_reg (XV rfl rfl rfl (XA rfl rfl rfl (XR_nil ?_)))))))))
  refine X_seq (X_block ?_)
  refine X_loop (fun s => s.2 - s.1) (fun s => [(0, .slice (some ⟨g, 0, none⟩) n c), (1, nV a), (2, nV m), (3, nV b), (4, .func (.func k) #[] caps), (10, nV s.1), (11, nV s.2)])
   (fun (s : Nat × Nat) hp => hp = h0 ∧ m ≤ s.1 ∧ s.1 ≤ s.2 ∧ s.2 ≤ b ∧ (s.1 = m ∨ key (V.getD (s.1 - m - 1) 0) < key u) ∧ (s.2 = b ∨ key u ≤ key (V.getD (s.2 - m) 0)))
   (m, b) (.cons rfl (.cons rfl (.cons rfl (.cons rfl (.cons rfl (.cons rfl (.cons rfl (.nil _)))))))) ⟨rfl, Nat.le_refl _, by simp only; omega, Nat.le_refl _, .inl rfl, .inl rfl⟩ ?_
  rintro ⟨i, j⟩ hp ⟨rfl, hi1, hi2, hi3, hi4, hi5⟩
  simp only at hi1 hi2 hi3 hi4 hi5 ⊢
  refine X_seq (X_seq (X_reg (XV rfl rfl rfl (XV rfl rfl rfl ?_))))
  refine XR_a (op_lss rfl rfl) rfl rfl ?_
  refine XR_nil ?_
  refine X_if rfl (fun h => ?_) (fun h => ?_)
  ·refine X_skip (X_block (X_seq (X_reg (XV rfl rfl rfl (XV rfl rfl rfl ?_)))))
   first | refine XR_a (op_addN rfl rfl (by simp only [inK]; omega)) rfl rfl ?_ | refine XR_a (op_addI rfl rfl (by simp only [inK]; omega)) rfl rfl ?_ | refine XR_a (op_add rfl rfl) rfl rfl ?_
   first | refine XR_a (op_convI rfl rfl (by simp only [inK]; omega)) rfl rfl ?_ | refine XR_a (op_convU rfl rfl rfl) rfl rfl ?_ | refine XR_a (op_conv rfl rfl) rfl rfl ?_
   first | refine XR_a (op_shrC 1 rfl rfl (by decide)) rfl rfl ?_ | refine XR_a (op_shrN 1 rfl rfl (by decide)) rfl rfl ?_
   first | refine XR_a (op_convI rfl rfl (by simp only [inK]; omega)) rfl rfl ?_ | refine XR_a (op_conv rfl rfl) rfl rfl ?_
   refine XR_as (nV ((i + j) / 2)) rfl ?_
   obtain ⟨q, hq⟩ : ∃ q, (i + j) / 2 = q := ⟨_, rfl⟩
   rw [hq]
   have hgq : (X ++ ([u] ++ (V ++ Y)))[q]? = some (V.getD (q - m) 0) := by
    have := get_part2 (X := X) (U := [u]) (V := V) (R := Y) (a := m) (i := q - m) hm (by omega)
    rwa [show m + (q - m) = q by omega] at this
   have hga : (X ++ ([u] ++ (V ++ Y)))[a]? = some u := get_mid _ _ _ ha.symm
   refine XA rfl rfl rfl (XR_nil (X_seq ?_))
   refine X_draw byKind (by kernel_rfl) (by kernel_rfl) ?_
   refine XV rfl rfl rfl (XV rfl rfl rfl (XV rfl rfl rfl ?_))
   first | refine XR_a (op_index1 rfl rfl rfl (by omega)) rfl rfl ?_ | refine XR_a (op_index rfl rfl rfl (by omega)) rfl rfl ?_
   refine XR_a (op_ld (st0.natAt hgq) rfl rfl rfl) rfl rfl ?_
   refine XV rfl rfl rfl (XV rfl rfl rfl ?_)
   first | refine XR_a (op_index1 rfl rfl rfl (by omega)) rfl rfl ?_ | refine XR_a (op_index rfl rfl rfl (by omega)) rfl rfl ?_
   refine XR_a (op_ld (st0.natAt hga) rfl rfl rfl) rfl rfl ?_
   refine XR_wa (opl_callV rfl (hcmp.2 _ _ st0 (V.getD (q - m) 0) u (hgV _ (getD_mem (by omega))) hgu) rfl (hcmp.1)) rfl rfl rfl ?_
   rintro _ _ ⟨rfl, rfl⟩
   refine XR_a (op_lss rfl rfl) rfl rfl ?_
   refine XR_nil ?_
   refine X_if rfl (fun h => ?_) (fun h => ?_)
   ·refine X_reg (XV rfl rfl rfl ?_)
    first | refine XR_a (op_addN (n := 1) rfl rfl (by simp only [inK]; omega)) rfl rfl ?_ | refine XR_a (op_addI rfl rfl (by simp only [inK]; omega)) rfl rfl ?_ | refine XR_a (op_add rfl rfl) rfl rfl ?_
    refine XA rfl rfl rfl (XR_nil (X_blk ?_))
    rw [cmpI_neg] at h
    exact X_again (q + 1, j) (.cons rfl (.cons rfl (.cons rfl (.cons rfl (.cons rfl (.cons rfl (.cons rfl (.nil _)))))))) ⟨rfl, by simp only; omega, by simp only; omega, hi3, .inr (by rw [show q + 1 - m - 1 = q - m by omega]; exact h), hi5⟩ (by simp only; omega)
   ·refine X_reg (XV rfl rfl rfl (XA rfl rfl rfl (XR_nil (X_blk ?_))))
    rw [cmpI_neg] at h
    exact X_again (i, q) (.cons rfl (.cons rfl (.cons rfl (.cons rfl (.cons rfl (.cons rfl (.cons rfl (.nil _)))))))) ⟨rfl, hi1, by simp only; omega, by simp only; omega, hi4, .inr (by simp only; omega)⟩ (by simp only; omega)
  ·refine X_exit rfl (X_seq (X_seq (X_reg (XV rfl rfl rfl (XA rfl rfl rfl (XR_nil (X_block ?_)))))))
   obtain rfl : i = j := by omega
   have hmg : Mrg key [u] V (V.take (i - m) ++ u :: V.drop (i - m)) := mrg_left hpre (by omega) (hi4.imp (fun h => by omega) id) (hi5.imp (fun h => by omega) id)
   refine X_loop (fun d => i - m - d) (fun d => [(0, .slice (some ⟨g, 0, none⟩) n c), (10, nV i), (13, nV (a + d))])
    (fun (d : Nat) hp' => d ≤ i - m ∧ St B hp hp' (rowN g n c (X ++ (V.take d ++ u :: (V.drop d ++ Y))) :: F))
    0 (.cons rfl (.cons rfl (.cons rfl (.nil _)))) ⟨Nat.zero_le _, by simpa using st0⟩ ?_
   rintro d hp2 ⟨hd, st⟩
   refine X_seq (X_seq (X_reg (XV rfl rfl rfl (XV rfl rfl rfl ?_))))
   first | refine XR_a (op_subN (n := 1) rfl rfl (by omega) (by simp only [inK]; omega)) rfl rfl ?_ | refine XR_a (op_subI rfl rfl (by simp only [inK]; omega)) rfl rfl ?_ | refine XR_a (op_sub rfl rfl) rfl rfl ?_
   refine XR_a (op_lss rfl rfl) rfl rfl ?_
   refine XR_nil ?_
   refine X_if rfl (fun h => ?_) (fun h => ?_)
   ·have hdV : d < V.length := by omega
    have e1 : X ++ (V.take d ++ u :: (V.drop d ++ Y)) = (X ++ V.take d) ++ u :: ([] ++ V.getD d 0 :: (V.drop (d + 1) ++ Y)) := by rw [drop_cons hdV]; simp
    have e2 : X ++ (V.take (d + 1) ++ u :: (V.drop (d + 1) ++ Y)) = (X ++ V.take d) ++ V.getD d 0 :: ([] ++ u :: (V.drop (d + 1) ++ Y)) := by rw [take_snoc hdV]; simp
    have hia : a + d = (X ++ V.take d).length := by rw [List.length_append, List.length_take]; omega
    have hib : a + d + 1 = (X ++ V.take d).length + 1 + ([] : List Nat).length := by rw [List.length_nil]; omega
    rw [e1] at st
    refine X_skip (X_seq (X_block ?_))
    refine X_draw (butAt [(4, .pure)]) (by kernel_rfl) (by kernel_rfl) ?_
    refine XV rfl rfl rfl (XV rfl rfl rfl (XV rfl rfl rfl (XV rfl rfl rfl ?_)))
    first | refine XR_a (op_addN (n := 1) rfl rfl (by simp only [inK]; omega)) rfl rfl ?_ | refine XR_a (op_addI rfl rfl (by simp only [inK]; omega)) rfl rfl ?_ | refine XR_a (op_add rfl rfl) rfl rfl ?_
    refine XV rfl rfl rfl (XV rfl rfl rfl ?_)
    first | refine XR_a (op_addN (n := 1) rfl rfl (by simp only [inK]; omega)) rfl rfl ?_ | refine XR_a (op_addI rfl rfl (by simp only [inK]; omega)) rfl rfl ?_ | refine XR_a (op_add rfl rfl) rfl rfl ?_
    first | refine XR_a (op_index1 rfl rfl rfl (by omega)) rfl rfl ?_ | refine XR_a (op_index rfl rfl rfl (by omega)) rfl rfl ?_
    refine XR_a (op_ld (st.natAt (get_mid2 _ _ _ _ _ hib)) rfl rfl rfl) rfl rfl ?_
    refine XV rfl rfl rfl (XV rfl rfl rfl ?_)
    first | refine XR_a (op_index1 rfl rfl rfl (by omega)) rfl rfl ?_ | refine XR_a (op_index rfl rfl rfl (by omega)) rfl rfl ?_
    refine XR_a (op_ld (st.natAt (get_mid _ _ _ hia)) rfl rfl rfl) rfl rfl ?_
    first | refine XR_a (op_index1 rfl rfl rfl (by omega)) rfl rfl ?_ | refine XR_a (op_index rfl rfl rfl (by omega)) rfl rfl ?_
    refine XR_wn (opl_store_row (i := a + d) st 0 rfl rfl rfl (by simp only [List.length_map, List.length_append, List.length_cons, List.length_take, List.length_drop, List.length_nil]; omega) rfl rfl) rfl rfl fun _ hp st => ?_
    simp only [List.set_cons_zero] at st
    first | refine XR_a (op_index1 rfl rfl rfl (by omega)) rfl rfl ?_ | refine XR_a (op_index rfl rfl rfl (by omega)) rfl rfl ?_
    refine XR_wn (opl_store_row (i := a + d + 1) st 0 rfl rfl rfl (by simp only [List.length_set, List.length_map, List.length_append, List.length_cons, List.length_take, List.length_drop, List.length_nil]; omega) rfl rfl) rfl rfl fun _ hp st => ?_
    simp only [List.set_cons_zero] at st
    rw [swap_map hia hib, ← e2] at st
    refine XR_nil (X_blk (X_reg (XV rfl rfl rfl ?_)))
    first | refine XR_a (op_addN (n := 1) rfl rfl (by simp only [inK]; omega)) rfl rfl ?_ | refine XR_a (op_addI rfl rfl (by simp only [inK]; omega)) rfl rfl ?_ | refine XR_a (op_add rfl rfl) rfl rfl ?_
    refine XA rfl rfl rfl (XR_nil ?_)
    exact X_again (d + 1) (.cons rfl (.cons rfl (.cons rfl (.nil _)))) ⟨by omega, st⟩ (by omega)
   ·refine X_exit rfl ?_
    refine X_ret .nil ?_
    obtain rfl : d = i - m := by omega
    exact ⟨_, hmg, by simpa using st⟩
 ·refine X_skip (X_seq (X_seq (X_reg (XV rfl rfl rfl (XV rfl rfl rfl ?_)))))
  first | refine XR_a (op_subN rfl rfl (by omega) (by simp only [inK]; omega)) rfl rfl ?_ | refine XR_a (op_subI rfl rfl (by simp only [inK]; omega)) rfl rfl ?_ | refine XR_a (op_sub rfl rfl) rfl rfl ?_
  refine XR_a (op_eql rfl rfl) rfl rfl ?_
  refine XR_nil ?_
  refine X_if rfl (fun h => ?_) (fun h => ?_)
  ·obtain ⟨v, rfl⟩ : ∃ v, V = [v] := List.length_eq_one_iff.1 (by omega)
   have hvl : [v].length = 1 := rfl
   have hgv := hgV v (by simp)
   refine X_seq (X_reg (XV rfl rfl rfl (XA rfl rfl rfl (XR_nil (X_seq (X_reg (XV rfl rfl rfl (XA rfl rfl rfl (XR_nil ?_)))))))))
   refine X_seq (X_block ?_)
   refine X_loop (fun s => s.2 - s.1) (fun s => [(0, .slice (some ⟨g, 0, none⟩) n c), (1, nV a), (2, nV m), (3, nV b), (4, .func (.func k) #[] caps), (14, nV s.1), (15, nV s.2)])
    (fun (s : Nat × Nat) hp => hp = h0 ∧ a ≤ s.1 ∧ s.1 ≤ s.2 ∧ s.2 ≤ m ∧ (s.1 = a ∨ key (U.getD (s.1 - a - 1) 0) ≤ key v) ∧ (s.2 = m ∨ key v < key (U.getD (s.2 - a) 0)))
    (a, m) (.cons rfl (.cons rfl (.cons rfl (.cons rfl (.cons rfl (.cons rfl (.cons rfl (.nil _)))))))) ⟨rfl, Nat.le_refl _, by simp only; omega, Nat.le_refl _, .inl rfl, .inl rfl⟩ ?_
   rintro ⟨i, j⟩ hp ⟨rfl, hi1, hi2, hi3, hi4, hi5⟩
   simp only at hi1 hi2 hi3 hi4 hi5 ⊢
   refine X_seq (X_seq (X_reg (XV rfl rfl rfl (XV rfl rfl rfl ?_))))
   refine XR_a (op_lss rfl rfl) rfl rfl ?_
   refine XR_nil ?_
   refine X_if rfl (fun h => ?_) (fun h => ?_)
   ·refine X_skip (X_block (X_seq (X_reg (XV rfl rfl rfl (XV rfl rfl rfl ?_)))))
    first | refine XR_a (op_addN rfl rfl (by simp only [inK]; omega)) rfl rfl ?_ | refine XR_a (op_addI rfl rfl (by simp only [inK]; omega)) rfl rfl ?_ | refine XR_a (op_add rfl rfl) rfl rfl ?_
    first | refine XR_a (op_convI rfl rfl (by simp only [inK]; omega)) rfl rfl ?_ | refine XR_a (op_convU rfl rfl rfl) rfl rfl ?_ | refine XR_a (op_conv rfl rfl) rfl rfl ?_
    first | refine XR_a (op_shrC 1 rfl rfl (by decide)) rfl rfl ?_ | refine XR_a (op_shrN 1 rfl rfl (by decide)) rfl rfl ?_
    first | refine XR_a (op_convI rfl rfl (by simp only [inK]; omega)) rfl rfl ?_ | refine XR_a (op_conv rfl rfl) rfl rfl ?_
    refine XR_as (nV ((i + j) / 2)) rfl ?_
    obtain ⟨q, hq⟩ : ∃ q, (i + j) / 2 = q := ⟨_, rfl⟩
    rw [hq]
    have hgq : (X ++ (U ++ ([v] ++ Y)))[q]? = some (U.getD (q - a) 0) := by
     have := get_part (X := X) (U := U) (R := [v] ++ Y) (a := a) (i := q - a) ha (by omega)
     rwa [show a + (q - a) = q by omega] at this
    have hga : (X ++ (U ++ ([v] ++ Y)))[m]? = some v := by
     have := get_part2 (X := X) (U := U) (V := [v]) (R := Y) (a := m) (i := 0) hm (by omega)
     exact this
    refine XA rfl rfl rfl (XR_nil (X_seq ?_))
    refine X_draw byKind (by kernel_rfl) (by kernel_rfl) ?_
    refine XV rfl rfl rfl (XV rfl rfl rfl (XV rfl rfl rfl ?_))
    first | refine XR_a (op_index1 rfl rfl rfl (by omega)) rfl rfl ?_ | refine XR_a (op_index rfl rfl rfl (by omega)) rfl rfl ?_
    refine XR_a (op_ld (st0.natAt hga) rfl rfl rfl) rfl rfl ?_
    refine XV rfl rfl rfl (XV rfl rfl rfl ?_)
    first | refine XR_a (op_index1 rfl rfl rfl (by omega)) rfl rfl ?_ | refine XR_a (op_index rfl rfl rfl (by omega)) rfl rfl ?_
    refine XR_a (op_ld (st0.natAt hgq) rfl rfl rfl) rfl rfl ?_
    refine XR_wa (opl_callV rfl (hcmp.2 _ _ st0 v (U.getD (q - a) 0) hgv (hgU _ (getD_mem (by omega)))) rfl (hcmp.1)) rfl rfl rfl ?_
    rintro _ _ ⟨rfl, rfl⟩
    refine XR_a (op_lss rfl rfl) rfl rfl ?_
    first | refine XR_a (op_notd rfl) rfl rfl ?_ | refine XR_a (op_not rfl) rfl rfl ?_
    refine XR_nil ?_
    refine X_if rfl (fun h => ?_) (fun h => ?_)
    ·refine X_reg (XV rfl rfl rfl ?_)
     first | refine XR_a (op_addN (n := 1) rfl rfl (by simp only [inK]; omega)) rfl rfl ?_ | refine XR_a (op_addI rfl rfl (by simp only [inK]; omega)) rfl rfl ?_ | refine XR_a (op_add rfl rfl) rfl rfl ?_
     refine XA rfl rfl rfl (XR_nil (X_blk ?_))
     rw [cmpI_neg] at h
     exact X_again (q + 1, j) (.cons rfl (.cons rfl (.cons rfl (.cons rfl (.cons rfl (.cons rfl (.cons rfl (.nil _)))))))) ⟨rfl, by simp only; omega, by simp only; omega, hi3, .inr (by rw [show q + 1 - a - 1 = q - a by omega]; omega), hi5⟩ (by simp only; omega)
    ·refine X_reg (XV rfl rfl rfl (XA rfl rfl rfl (XR_nil (X_blk ?_))))
     rw [cmpI_neg] at h
     exact X_again (i, q) (.cons rfl (.cons rfl (.cons rfl (.cons rfl (.cons rfl (.cons rfl (.cons rfl (.nil _)))))))) ⟨rfl, hi1, by simp only; omega, by simp only; omega, hi4, .inr (by simp only; omega)⟩ (by simp only; omega)
   ·refine X_exit rfl (X_seq (X_seq (X_reg (XV rfl rfl rfl (XA rfl rfl rfl (XR_nil (X_block ?_)))))))
    obtain rfl : i = j := by omega
    have hmg : Mrg key U [v] (U.take (i - a) ++ v :: U.drop (i - a)) := mrg_right hpre (by omega) (hi4.imp (fun h => by omega) id) (hi5.imp (fun h => by omega) id)
    refine X_loop (fun d => d) (fun d => [(0, .slice (some ⟨g, 0, none⟩) n c), (14, nV i), (17, nV (a + d))])
     (fun (d : Nat) hp' => i - a ≤ d ∧ d ≤ U.length ∧ St B hp hp' (rowN g n c (X ++ (U.take d ++ v :: (U.drop d ++ Y))) :: F))
     U.length (.cons rfl (.cons rfl (.cons (by rw [show a + U.length = m by omega]; rfl) (.nil _)))) ⟨by omega, Nat.le_refl _, by simpa using st0⟩ ?_
    rintro d hp2 ⟨hd, hdU, st⟩
    refine X_seq (X_seq (X_reg (XV rfl rfl rfl (XV rfl rfl rfl ?_))))
    refine XR_a (op_gtr rfl rfl) rfl rfl ?_
    refine XR_nil ?_
    refine X_if rfl (fun h => ?_) (fun h => ?_)
    ·have hd1 : d - 1 < U.length := by omega
     have e1 : X ++ (U.take d ++ v :: (U.drop d ++ Y)) = (X ++ U.take (d - 1)) ++ U.getD (d - 1) 0 :: ([] ++ v :: (U.drop d ++ Y)) := by
      have := take_snoc hd1
      rw [show d - 1 + 1 = d by omega] at this
      rw [this]; simp
     have e2 : X ++ (U.take (d - 1) ++ v :: (U.drop (d - 1) ++ Y)) = (X ++ U.take (d - 1)) ++ v :: ([] ++ U.getD (d - 1) 0 :: (U.drop d ++ Y)) := by
      have := drop_cons hd1
      rw [show d - 1 + 1 = d by omega] at this
      rw [this]; simp
     have hia : a + d - 1 = (X ++ U.take (d - 1)).length := by rw [List.length_append, List.length_take]; omega
     have hib : a + d = (X ++ U.take (d - 1)).length + 1 + ([] : List Nat).length := by rw [List.length_append, List.length_take, List.length_nil]; omega
     rw [e1] at st
     refine X_skip (X_seq (X_block ?_))
     refine X_draw (butAt [(4, .pure)]) (by kernel_rfl) (by kernel_rfl) ?_
     refine XV rfl rfl rfl (XV rfl rfl rfl (XV rfl rfl rfl (XV rfl rfl rfl ?_)))
     first | refine XR_a (op_subN (n := 1) rfl rfl (by omega) (by simp only [inK]; omega)) rfl rfl ?_ | refine XR_a (op_subI rfl rfl (by simp only [inK]; omega)) rfl rfl ?_ | refine XR_a (op_sub rfl rfl) rfl rfl ?_
     refine XV rfl rfl rfl (XV rfl rfl rfl ?_)
     first | refine XR_a (op_subN (n := 1) rfl rfl (by omega) (by simp only [inK]; omega)) rfl rfl ?_ | refine XR_a (op_subI rfl rfl (by simp only [inK]; omega)) rfl rfl ?_ | refine XR_a (op_sub rfl rfl) rfl rfl ?_
     first | refine XR_a (op_index1 rfl rfl rfl (by omega)) rfl rfl ?_ | refine XR_a (op_index rfl rfl rfl (by omega)) rfl rfl ?_
     refine XR_a (op_ld (st.natAt (get_mid _ _ _ hia)) rfl rfl rfl) rfl rfl ?_
     refine XV rfl rfl rfl (XV rfl rfl rfl ?_)
     first | refine XR_a (op_index1 rfl rfl rfl (by omega)) rfl rfl ?_ | refine XR_a (op_index rfl rfl rfl (by omega)) rfl rfl ?_
     refine XR_a (op_ld (st.natAt (get_mid2 _ _ _ _ _ hib)) rfl rfl rfl) rfl rfl ?_
     first | refine XR_a (op_index1 rfl rfl rfl (by omega)) rfl rfl ?_ | refine XR_a (op_index rfl rfl rfl (by omega)) rfl rfl ?_
     refine XR_wn (opl_store_row (i := a + d) st 0 rfl rfl rfl (by simp only [List.length_map, List.length_append, List.length_cons, List.length_take, List.length_drop, List.length_nil]; omega) rfl rfl) rfl rfl fun _ hp st => ?_
     simp only [List.set_cons_zero] at st
     first | refine XR_a (op_index1 rfl rfl rfl (by omega)) rfl rfl ?_ | refine XR_a (op_index rfl rfl rfl (by omega)) rfl rfl ?_
     refine XR_wn (opl_store_row (i := a + d - 1) st 0 rfl rfl rfl (by simp only [List.length_set, List.length_map, List.length_append, List.length_cons, List.length_take, List.length_drop, List.length_nil]; omega) rfl rfl) rfl rfl fun _ hp st => ?_
     simp only [List.set_cons_zero] at st
     rw [swap_map' hia hib, ← e2] at st
     refine XR_nil (X_blk (X_reg (XV rfl rfl rfl ?_)))
     first | refine XR_a (op_subN (n := 1) rfl rfl (by omega) (by simp only [inK]; omega)) rfl rfl ?_ | refine XR_a (op_subI rfl rfl (by simp only [inK]; omega)) rfl rfl ?_ | refine XR_a (op_sub rfl rfl) rfl rfl ?_
     refine XA rfl rfl rfl (XR_nil ?_)
     exact X_again (d - 1) (.cons rfl (.cons rfl (.cons (by rw [show a + d - 1 = a + (d - 1) by omega]; rfl) (.nil _)))) ⟨by omega, by omega, st⟩ (by omega)
    ·refine X_exit rfl ?_
     refine X_ret .nil ?_
     obtain rfl : d = i - a := by omega
     exact ⟨_, hmg, by simpa using st⟩
  ·refine X_skip (X_seq (X_reg (XV rfl rfl rfl (XV rfl rfl rfl ?_))))
   first | refine XR_a (op_addN rfl rfl (by simp only [inK]; omega)) rfl rfl ?_ | refine XR_a (op_addI rfl rfl (by simp only [inK]; omega)) rfl rfl ?_ | refine XR_a (op_add rfl rfl) rfl rfl ?_
   first | refine XR_a (op_convI rfl rfl (by simp only [inK]; omega)) rfl rfl ?_ | refine XR_a (op_convU rfl rfl rfl) rfl rfl ?_ | refine XR_a (op_conv rfl rfl) rfl rfl ?_
   first | refine XR_a (op_shrC 1 rfl rfl (by decide)) rfl rfl ?_ | refine XR_a (op_shrN 1 rfl rfl (by decide)) rfl rfl ?_
   first | refine XR_a (op_convI rfl rfl (by simp only [inK]; omega)) rfl rfl ?_ | refine XR_a (op_conv rfl rfl) rfl rfl ?_
   refine XR_as (nV ((a + b) / 2)) rfl ?_
   obtain ⟨mid, hmid⟩ : ∃ mid, (a + b) / 2 = mid := ⟨_, rfl⟩
   rw [hmid]
   refine XA rfl rfl rfl (XR_nil (X_seq (X_reg (XV rfl rfl rfl (XV rfl rfl rfl ?_)))))
   first | refine XR_a (op_addN rfl rfl (by simp only [inK]; omega)) rfl rfl ?_ | refine XR_a (op_addI rfl rfl (by simp only [inK]; omega)) rfl rfl ?_ | refine XR_a (op_add rfl rfl) rfl rfl ?_
   refine XA rfl rfl rfl (XR_nil (X_seq (X_reg (XA rfl rfl rfl (XA rfl rfl rfl (XR_nil (X_seq ?_)))))))
   refine X_cut (fun s => [(0, .slice (some ⟨g, 0, none⟩) n c), (1, nV a), (2, nV m), (3, nV b), (4, .func (.func k) #[] caps), (18, nV mid), (19, nV (mid + m)), (20, nV s.1), (21, nV s.2)])
    (fun (s : Nat × Nat) hp => hp = h0 ∧ a ≤ s.1 ∧ s.1 ≤ s.2 ∧ s.2 ≤ m ∧ mid + m ≤ b + s.1 ∧ m + s.2 ≤ mid + m ∧ (s.1 = a ∨ mid + m = b + s.1) ∧ (s.2 = m ∨ mid + m = m + s.2)) ?_ ?_
   ·refine X_seq (X_reg (XV rfl rfl rfl (XV rfl rfl rfl ?_)))
    refine XR_a (op_gtr rfl rfl) rfl rfl ?_
    refine XR_nil ?_
    refine X_if rfl (fun h => ?_) (fun h => ?_)
    ·refine X_seq (X_reg (XV rfl rfl rfl (XV rfl rfl rfl ?_)))
     first | refine XR_a (op_subN rfl rfl (by omega) (by simp only [inK]; omega)) rfl rfl ?_ | refine XR_a (op_subI rfl rfl (by simp only [inK]; omega)) rfl rfl ?_ | refine XR_a (op_sub rfl rfl) rfl rfl ?_
     refine XA rfl rfl rfl (XR_nil (X_reg (XV rfl rfl rfl (XA rfl rfl rfl (XR_nil ?_)))))
     exact X_meet (mid + m - b, mid) (.cons rfl (.cons rfl (.cons rfl (.cons rfl (.cons rfl (.cons rfl (.cons rfl (.cons rfl (.cons rfl (.nil _)))))))))) ⟨rfl, by simp only; omega, by simp only; omega, by simp only; omega, by simp only; omega, by simp only; omega, by simp only; omega, by simp only; omega⟩
    ·refine X_seq (X_reg (XV rfl rfl rfl (XA rfl rfl rfl (XR_nil (X_reg (XV rfl rfl rfl (XA rfl rfl rfl (XR_nil ?_))))))))
     exact X_meet (a, m) (.cons rfl (.cons rfl (.cons rfl (.cons rfl (.cons rfl (.cons rfl (.cons rfl (.cons rfl (.cons rfl (.nil _)))))))))) ⟨rfl, Nat.le_refl _, by simp only; omega, Nat.le_refl _, by simp only; omega, by simp only; omega, .inl rfl, .inl rfl⟩
   rintro ⟨s0, r0⟩ hp ⟨rfl, hA, hB, hC, hD, hE, hF, hG⟩
   simp only at hA hB hC hD hE hF hG ⊢
   refine X_seq (X_reg (XV rfl rfl rfl ?_))
   first | refine XR_a (op_subN (n := 1) rfl rfl (by omega) (by simp only [inK]; omega)) rfl rfl ?_ | refine XR_a (op_subI rfl rfl (by simp only [inK]; omega)) rfl rfl ?_ | refine XR_a (op_sub rfl rfl) rfl rfl ?_
   refine XA rfl rfl rfl (XR_nil (X_seq (X_block ?_)))
   refine X_loop (fun s => s.2 - s.1) (fun s => [(0, .slice (some ⟨g, 0, none⟩) n c), (1, nV a), (2, nV m), (3, nV b), (4, .func (.func k) #[] caps), (18, nV mid), (19, nV (mid + m)), (20, nV s.1), (21, nV s.2), (22, nV (mid + m - 1))])
    (fun (s : Nat × Nat) hp' => hp' = hp ∧ s0 ≤ s.1 ∧ s.1 ≤ s.2 ∧ s.2 ≤ r0 ∧ (s.1 = s0 ∨ key (U.getD (s.1 - a - 1) 0) ≤ key (V.getD (mid - s.1) 0)) ∧ (s.2 = r0 ∨ key (V.getD (mid - s.2 - 1) 0) < key (U.getD (s.2 - a) 0)))
    (s0, r0) (.cons rfl (.cons rfl (.cons rfl (.cons rfl (.cons rfl (.cons rfl (.cons rfl (.cons rfl (.cons rfl (.cons rfl (.nil _))))))))))) ⟨rfl, Nat.le_refl _, hB, Nat.le_refl _, .inl rfl, .inl rfl⟩ ?_
   rintro ⟨s, r⟩ hp2 ⟨rfl, hs1, hs2, hs3, hs4, hs5⟩
   simp only at hs1 hs2 hs3 hs4 hs5 ⊢
   refine X_seq (X_seq (X_reg (XV rfl rfl rfl (XV rfl rfl rfl ?_))))
   refine XR_a (op_lss rfl rfl) rfl rfl ?_
   refine XR_nil ?_
   refine X_if rfl (fun h => ?_) (fun h => ?_)
   ·refine X_skip (X_block (X_seq (X_reg (XV rfl rfl rfl (XV rfl rfl rfl ?_)))))
    first | refine XR_a (op_addN rfl rfl (by simp only [inK]; omega)) rfl rfl ?_ | refine XR_a (op_addI rfl rfl (by simp only [inK]; omega)) rfl rfl ?_ | refine XR_a (op_add rfl rfl) rfl rfl ?_
    first | refine XR_a (op_convI rfl rfl (by simp only [inK]; omega)) rfl rfl ?_ | refine XR_a (op_convU rfl rfl rfl) rfl rfl ?_ | refine XR_a (op_conv rfl rfl) rfl rfl ?_
    first | refine XR_a (op_shrC 1 rfl rfl (by decide)) rfl rfl ?_ | refine XR_a (op_shrN 1 rfl rfl (by decide)) rfl rfl ?_
    first | refine XR_a (op_convI rfl rfl (by simp only [inK]; omega)) rfl rfl ?_ | refine XR_a (op_conv rfl rfl) rfl rfl ?_
    refine XR_as (nV ((s + r) / 2)) rfl ?_
    obtain ⟨q, hq⟩ : ∃ q, (s + r) / 2 = q := ⟨_, rfl⟩
    rw [hq]
    have hgq : (X ++ (U ++ (V ++ Y)))[q]? = some (U.getD (q - a) 0) := by
     have := get_part (X := X) (U := U) (R := V ++ Y) (a := a) (i := q - a) ha (by omega)
     rwa [show a + (q - a) = q by omega] at this
    have hgp : (X ++ (U ++ (V ++ Y)))[mid + m - 1 - q]? = some (V.getD (mid - q - 1) 0) := by
     have := get_part2 (X := X) (U := U) (V := V) (R := Y) (a := m) (i := mid - q - 1) hm (by omega)
     rwa [show m + (mid - q - 1) = mid + m - 1 - q by omega] at this
    refine XA rfl rfl rfl (XR_nil (X_seq ?_))
    refine X_draw byKind (by kernel_rfl) (by kernel_rfl) ?_
    refine XV rfl rfl rfl (XV rfl rfl rfl (XV rfl rfl rfl (XV rfl rfl rfl ?_)))
    first | refine XR_a (op_subN rfl rfl (by omega) (by simp only [inK]; omega)) rfl rfl ?_ | refine XR_a (op_subI rfl rfl (by simp only [inK]; omega)) rfl rfl ?_ | refine XR_a (op_sub rfl rfl) rfl rfl ?_
    first | refine XR_a (op_index1 rfl rfl rfl (by omega)) rfl rfl ?_ | refine XR_a (op_index rfl rfl rfl (by omega)) rfl rfl ?_
    refine XR_a (op_ld (st0.natAt hgp) rfl rfl rfl) rfl rfl ?_
    refine XV rfl rfl rfl (XV rfl rfl rfl ?_)
    first | refine XR_a (op_index1 rfl rfl rfl (by omega)) rfl rfl ?_ | refine XR_a (op_index rfl rfl rfl (by omega)) rfl rfl ?_
    refine XR_a (op_ld (st0.natAt hgq) rfl rfl rfl) rfl rfl ?_
    refine XR_wa (opl_callV rfl (hcmp.2 _ _ st0 (V.getD (mid - q - 1) 0) (U.getD (q - a) 0) (hgV _ (getD_mem (by omega))) (hgU _ (getD_mem (by omega)))) rfl (hcmp.1)) rfl rfl rfl ?_
    rintro _ _ ⟨rfl, rfl⟩
    refine XR_a (op_lss rfl rfl) rfl rfl ?_
    first | refine XR_a (op_notd rfl) rfl rfl ?_ | refine XR_a (op_not rfl) rfl rfl ?_
    refine XR_nil ?_
    refine X_if rfl (fun h => ?_) (fun h => ?_)
    ·refine X_reg (XV rfl rfl rfl ?_)
     first | refine XR_a (op_addN (n := 1) rfl rfl (by simp only [inK]; omega)) rfl rfl ?_ | refine XR_a (op_addI rfl rfl (by simp only [inK]; omega)) rfl rfl ?_ | refine XR_a (op_add rfl rfl) rfl rfl ?_
     refine XA rfl rfl rfl (XR_nil (X_blk ?_))
     rw [cmpI_neg] at h
     exact X_again (q + 1, r) (.cons rfl (.cons rfl (.cons rfl (.cons rfl (.cons rfl (.cons rfl (.cons rfl (.cons rfl (.cons rfl (.cons rfl (.nil _))))))))))) ⟨rfl, by simp only; omega, by simp only; omega, hs3, .inr (by rw [show q + 1 - a - 1 = q - a by omega, show mid - (q + 1) = mid - q - 1 by omega]; omega), hs5⟩ (by simp only; omega)
    ·refine X_reg (XV rfl rfl rfl (XA rfl rfl rfl (XR_nil (X_blk ?_))))
     rw [cmpI_neg] at h
     exact X_again (s, q) (.cons rfl (.cons rfl (.cons rfl (.cons rfl (.cons rfl (.cons rfl (.cons rfl (.cons rfl (.cons rfl (.cons rfl (.nil _))))))))))) ⟨rfl, hs1, by simp only; omega, by simp only; omega, hs4, .inr (by simp only; omega)⟩ (by simp only; omega)
   ·refine X_exit rfl (X_seq ?_)
    obtain rfl : s = r := by omega
    have hi : s - a ≤ U.length := by omega
    have hj : mid - s ≤ V.length := by omega
    have hc1 : s - a = 0 ∨ V.length ≤ mid - s ∨ key (U.getD (s - a - 1) 0) ≤ key (V.getD (mid - s) 0) := by
     rcases hs4 with h1 | h1
     ·omega
     ·exact .inr (.inr h1)
    have hc2 : U.length ≤ s - a ∨ mid - s = 0 ∨ key (V.getD (mid - s - 1) 0) < key (U.getD (s - a) 0) := by
     rcases hs5 with h1 | h1
     ·omega
     ·exact .inr (.inr h1)
    have hsplit := fun W1 W2 m1 m2 => mrg_split (W1 := W1) (W2 := W2) hpre hc1 hc2 hi hj m1 m2
    obtain ⟨hq1, hq2⟩ := hpre.part (s - a) (mid - s)
    have e0 : X ++ (U ++ (V ++ Y)) = X ++ (U.take (s - a) ++ (U.drop (s - a) ++ (V.take (mid - s) ++ (V.drop (mid - s) ++ Y)))) := by
     rw [← List.append_assoc (V.take _), List.take_append_drop, ← List.append_assoc (U.take _), List.take_append_drop]
    obtain ⟨U1, hU1⟩ : ∃ U1, U.take (s - a) = U1 := ⟨_, rfl⟩
    obtain ⟨U2, hU2⟩ : ∃ U2, U.drop (s - a) = U2 := ⟨_, rfl⟩
    obtain ⟨V1, hV1⟩ : ∃ V1, V.take (mid - s) = V1 := ⟨_, rfl⟩
    obtain ⟨V2, hV2⟩ : ∃ V2, V.drop (mid - s) = V2 := ⟨_, rfl⟩
    have hlU1 : U1.length = s - a := by rw [← hU1, List.length_take]; omega
    have hlU2 : U2.length = m - s := by rw [← hU2, List.length_drop]; omega
    have hlV1 : V1.length = mid - s := by rw [← hV1, List.length_take]; omega
    have hlV2 : V2.length = b + s - (mid + m) := by rw [← hV2, List.length_drop]; omega
    have hgU1 : ∀ x ∈ U1, good x := fun x hx => hgU x (List.mem_of_mem_take (by rw [hU1]; exact hx))
    have hgU2 : ∀ x ∈ U2, good x := fun x hx => hgU x (List.mem_of_mem_drop (by rw [hU2]; exact hx))
    have hgV1 : ∀ x ∈ V1, good x := fun x hx => hgV x (List.mem_of_mem_take (by rw [hV1]; exact hx))
    have hgV2 : ∀ x ∈ V2, good x := fun x hx => hgV x (List.mem_of_mem_drop (by rw [hV2]; exact hx))
    rw [hU1, hU2, hV1, hV2] at e0
    rw [hU1, hV1] at hq1
    rw [hU2, hV2] at hq2
    rw [hU1, hU2, hV1, hV2] at hsplit
    rw [e0] at st0
    refine X_reg (XV rfl rfl rfl (XV rfl rfl rfl ?_))
    first | refine XR_a (op_subN rfl rfl (by omega) (by simp only [inK]; omega)) rfl rfl ?_ | refine XR_a (op_subI rfl rfl (by simp only [inK]; omega)) rfl rfl ?_ | refine XR_a (op_sub rfl rfl) rfl rfl ?_
    refine XA rfl rfl rfl (XR_nil (X_seq ?_))
    refine X_cut (fun (_ : Unit) => [(0, .slice (some ⟨g, 0, none⟩) n c), (1, nV a), (2, nV m), (3, nV b), (4, .func (.func k) #[] caps), (18, nV mid), (20, nV s), (24, nV (mid + m - s))])
     (fun (_ : Unit) hp' => St B hp2 hp' (rowN g n c (X ++ (U1 ++ (V1 ++ (U2 ++ (V2 ++ Y))))) :: F)) ?_ ?_
    ·refine X_seq (X_reg (XV rfl rfl rfl (XV rfl rfl rfl ?_)))
     refine XR_a (op_lss rfl rfl) rfl rfl ?_
     refine XV rfl rfl rfl ?_
     refine XR_if 181 rfl (fun h => ?_) (fun h => ?_)
     ·refine XV rfl rfl rfl (XV rfl rfl rfl ?_)
      refine XR_a (op_lss rfl rfl) rfl rfl ?_
      refine XR_a (op_pick_t rfl rfl) rfl rfl (XR_nil ?_)
      refine X_if rfl (fun h => ?_) (fun h => ?_)
      ·refine X_reg (XV rfl rfl rfl (XV rfl rfl rfl (XV rfl rfl rfl (XV rfl rfl rfl (XV rfl rfl rfl ?_)))))
       refine XR_wa (opl_call (rotate_spec (X := X ++ U1) (U := U2) (V := V1) (Y := V2 ++ Y) (by rw [List.append_assoc]; exact st0) (by rw [List.length_append]; omega) (by rw [List.length_append]; omega) (by omega) (by omega) (by omega) hn) rfl (by kernel_rfl)) rfl rfl rfl ?_
       rintro _ hp3 st
       rw [List.append_assoc] at st
       refine XR_nil ?_
       exact X_meet () (.cons rfl (.cons rfl (.cons rfl (.cons rfl (.cons rfl (.cons rfl (.cons rfl (.cons rfl (.nil _))))))))) st
      ·refine X_skip ?_
       refine X_meet () (.cons rfl (.cons rfl (.cons rfl (.cons rfl (.cons rfl (.cons rfl (.cons rfl (.cons rfl (.nil _))))))))) ?_
       obtain rfl : V1 = [] := List.eq_nil_of_length_eq_zero (by omega)
       exact st0
     ·refine XR_no rfl rfl (XR_no rfl rfl (XR_no rfl rfl (XR_a (op_pick_f rfl rfl) rfl rfl (XR_nil (X_else rfl (X_skip ?_))))))
      refine X_meet () (.cons rfl (.cons rfl (.cons rfl (.cons rfl (.cons rfl (.cons rfl (.cons rfl (.cons rfl (.nil _))))))))) ?_
      obtain rfl : U2 = [] := List.eq_nil_of_length_eq_zero (by omega)
      exact st0
    rintro ⟨⟩ hp3 st
    refine X_seq ?_
    refine X_cut (fun (_ : List Nat) => [(0, .slice (some ⟨g, 0, none⟩) n c), (1, nV a), (2, nV m), (3, nV b), (4, .func (.func k) #[] caps), (18, nV mid), (20, nV s), (24, nV (mid + m - s))])
     (fun W1 hp' => Mrg key U1 V1 W1 ∧ St B hp2 hp' (rowN g n c (X ++ (W1 ++ (U2 ++ (V2 ++ Y)))) :: F)) ?_ ?_
    ·refine X_seq (X_reg (XV rfl rfl rfl (XV rfl rfl rfl ?_)))
     refine XR_a (op_lss rfl rfl) rfl rfl ?_
     refine XV rfl rfl rfl ?_
     refine XR_if 195 rfl (fun h => ?_) (fun h => ?_)
     ·refine XV rfl rfl rfl (XV rfl rfl rfl ?_)
      refine XR_a (op_lss rfl rfl) rfl rfl ?_
      refine XR_a (op_pick_t rfl rfl) rfl rfl (XR_nil ?_)
      refine X_if rfl (fun h => ?_) (fun h => ?_)
      ·refine X_reg (XV rfl rfl rfl (XV rfl rfl rfl (XV rfl rfl rfl (XV rfl rfl rfl (XV rfl rfl rfl ?_)))))
       refine XR_wa (opl_call (ih g n c a s mid X U1 V1 (U2 ++ (V2 ++ Y)) _ st.here (hcmp.here st) ha (by omega) (by omega) (by omega) (by omega) (by omega) hq1 hgU1 hgV1 hn) rfl (by kernel_rfl)) rfl rfl rfl ?_
       rintro _ hp4 ⟨W1, hW1, st3⟩
       replace st := st.trans st3
       refine XR_nil ?_
       exact X_meet W1 (.cons rfl (.cons rfl (.cons rfl (.cons rfl (.cons rfl (.cons rfl (.cons rfl (.cons rfl (.nil _))))))))) ⟨hW1, st⟩
      ·refine X_skip ?_
       refine X_meet U1 (.cons rfl (.cons rfl (.cons rfl (.cons rfl (.cons rfl (.cons rfl (.cons rfl (.cons rfl (.nil _))))))))) ?_
       obtain rfl : V1 = [] := List.eq_nil_of_length_eq_zero (by omega)
       exact ⟨mrg_nil_right hq1.1, st⟩
     ·refine XR_no rfl rfl (XR_no rfl rfl (XR_no rfl rfl (XR_a (op_pick_f rfl rfl) rfl rfl (XR_nil (X_else rfl (X_skip ?_))))))
      refine X_meet V1 (.cons rfl (.cons rfl (.cons rfl (.cons rfl (.cons rfl (.cons rfl (.cons rfl (.cons rfl (.nil _))))))))) ?_
      obtain rfl : U1 = [] := List.eq_nil_of_length_eq_zero (by omega)
      exact ⟨mrg_nil_left hq1.2.1, st⟩
    rintro W1 hp4 ⟨hW1, st⟩
    have hlW1 : W1.length = mid - a := by rw [hW1.1.length_eq, List.length_append]; omega
    refine X_seq (X_reg (XV rfl rfl rfl (XV rfl rfl rfl ?_)))
    refine XR_a (op_lss rfl rfl) rfl rfl ?_
    refine XV rfl rfl rfl ?_
    refine XR_if 209 rfl (fun h => ?_) (fun h => ?_)
    ·refine XV rfl rfl rfl (XV rfl rfl rfl ?_)
     refine XR_a (op_lss rfl rfl) rfl rfl ?_
     refine XR_a (op_pick_t rfl rfl) rfl rfl (XR_nil ?_)
     refine X_if rfl (fun h => ?_) (fun h => ?_)
     ·refine X_reg (XV rfl rfl rfl (XV rfl rfl rfl (XV rfl rfl rfl (XV rfl rfl rfl (XV rfl rfl rfl ?_)))))
      refine XR_wa (opl_call (ih g n c mid (mid + m - s) b (X ++ W1) U2 V2 Y _ (by rw [List.append_assoc]; exact st.here) (hcmp.here st) (by rw [List.length_append]; omega) (by rw [List.length_append]; omega) (by omega) (by omega) (by omega) (by omega) hq2 hgU2 hgV2 hn) rfl (by kernel_rfl)) rfl rfl rfl ?_
      rintro _ hp5 ⟨W2, hW2, st4⟩
      rw [List.append_assoc] at st4
      replace st := st.trans st4
      refine XR_nil ?_
      refine X_end .nil ?_
      exact ⟨_, hsplit W1 W2 hW1 hW2, by simpa using st⟩
     ·refine X_skip ?_
      refine X_end .nil ?_
      obtain rfl : V2 = [] := List.eq_nil_of_length_eq_zero (by omega)
      exact ⟨_, hsplit W1 U2 hW1 (mrg_nil_right hq2.1), by simpa using st⟩
    ·refine XR_no rfl rfl (XR_no rfl rfl (XR_no rfl rfl (XR_a (op_pick_f rfl rfl) rfl rfl (XR_nil (X_else rfl (X_skip ?_))))))
     refine X_end .nil ?_
     obtain rfl : U2 = [] := List.eq_nil_of_length_eq_zero (by omega)
     exact ⟨_, hsplit W1 V2 hW1 (mrg_nil_left hq2.2.1), by simpa using st⟩
theorem symMerge_spec {B k : Nat} {F : List Res} {caps : Array Value} {key : Nat → Nat} {good : Nat → Prop} : ∀ N, SymOK B k F caps key good N
 | 0 => fun g n c a m b X U V Y h0 _ _ _ _ _ h1 h2 h3 => by omega
 | N + 1 => fun g n c a m b X U V Y h0 h1 h2 h3 h4 h5 h6 h7 h8 h9 h10 h11 h12 => symMerge_step (symMerge_spec N) h1 h2 h3 h4 h5 h6 h7 h8 h9 h10 h11 h12
end Go.Bn
end

section
set_option linter.unusedVariables false
set_option linter.unusedSimpArgs false
set_option maxHeartbeats 4000000
set_option maxRecDepth 20000
namespace Go.Bn
open Go Proofs
theorem stable_spec {B g n c k : Nat} {l0 : List Nat} {caps : Array Value} {key : Nat → Nat} {good : Nat → Prop} {F : List Res} {h0 : Heap} (st0 : St B h0 h0 (rowN g n c l0 :: F)) (hcmp : CmpOK B h0 F k caps key good)
  (hlt : l0.Pairwise (· < ·)) (hg : ∀ x ∈ l0, good x) (hn : n ≤ 1099511627776) :
  Ret Try.prog 132 [.slice (some ⟨g, 0, none⟩) n c, nV n, .func (.func k) #[] caps] h0 fun _ h' => ∃ l, l.Perm l0 ∧ RkS key l ∧ St B h0 h' (rowN g n c l :: F) := by
 have hln := st0.natLen
 refine ret_of_X Try.func132 rfl rfl fun w0 hw0 => ?_
 simp only [argE, Nat.zero_add, Nat.reduceAdd]
 refine X_seq (X_reg (XA rfl rfl rfl (XR_nil (X_seq (X_reg (XV rfl rfl rfl (XA rfl rfl rfl (XA rfl rfl rfl (XR_nil ?_)))))))))
 refine X_seq (X_block ?_)
 refine X_loop (fun s => n + 20 - 20 * s.1) (fun s => [(0, .slice (some ⟨g, 0, none⟩) n c), (1, nV n), (2, .func (.func k) #[] caps), (6, nV 20), (7, nV (s.1 * 20)), (8, nV (s.1 * 20 + 20))])
  (fun (s : Nat × List Nat) hp => (∀ k', k' < s.1 → BOK key 20 s.2 l0 k') ∧ (∀ k', s.1 ≤ k' → blk 20 k' s.2 = blk 20 k' l0) ∧ s.1 * 20 ≤ n ∧ St B h0 hp (rowN g n c s.2 :: F))
  (0, l0) (.cons rfl (.cons rfl (.cons rfl (.cons rfl (.cons rfl (.cons rfl (.nil _))))))) ⟨fun k' h => by simp only at h; omega, fun _ _ => rfl, by simp only; omega, st0⟩ ?_
 rintro ⟨i, l⟩ hp ⟨hdone, hrest, hin, st⟩
 simp only at hdone hrest hin st ⊢
 have hll := st.natLen
 have hgb : ∀ x ∈ blk 20 i l, good x := fun x hx => by
  rw [hrest i (Nat.le_refl _)] at hx; exact hg x (mem_blk hx)
 have hltb : (blk 20 i l).Pairwise (· < ·) := by
  rw [hrest i (Nat.le_refl _)]; exact hlt.sublist ((List.take_sublist _ _).trans (List.drop_sublist _ _))
 have hbl := blk_length (B := 20) (k := i) (l := l)
 have e := cut3 l (i * 20) 20
 have e2 : (l.drop (i * 20)).take 20 = blk 20 i l := rfl
 rw [e2] at e
 have hXl : (l.take (i * 20)).length = i * 20 := by rw [List.length_take]; omega
 have hYl : (blk 20 i l).length = 20 ∨ l.drop (i * 20 + 20) = [] := by
  rcases Nat.lt_or_ge n (i * 20 + 20) with h | h
  ·right; exact List.drop_of_length_le (by omega)
  ·left; omega
 have hstep : ∀ M', M'.Perm (blk 20 i l) → RkS key M' → (∀ k', k' < i + 1 → BOK key 20 (l.take (i * 20) ++ (M' ++ l.drop (i * 20 + 20))) l0 k') ∧ (∀ k', i + 1 ≤ k' → blk 20 k' (l.take (i * 20) ++ (M' ++ l.drop (i * 20 + 20))) = blk 20 k' l0) := fun M' hp hs => by
  refine ⟨fun k' hk => ?_, fun k' hk => ?_⟩
  ·rcases Nat.lt_or_ge k' i with h | h
   ·have := hdone k' h
    rw [e] at this
    refine this.keep hp.length_eq (.inr ?_)
    rw [hXl]; exact Nat.mul_le_mul_right _ h
   ·obtain rfl : k' = i := by omega
    refine BOK.put hXl (by omega) hYl ?_ hp.length_eq hs
    rw [← hrest k' (Nat.le_refl _)]; exact hp
  ·have h2 := hrest k' (by omega)
   rw [e] at h2
   rw [blk_other hXl hp.length_eq (by omega) hYl (by omega), h2]
 obtain ⟨X, hX⟩ : ∃ X, l.take (i * 20) = X := ⟨_, rfl⟩
 obtain ⟨M, hM⟩ : ∃ M, blk 20 i l = M := ⟨_, rfl⟩
 obtain ⟨Y, hY⟩ : ∃ Y, l.drop (i * 20 + 20) = Y := ⟨_, rfl⟩
 rw [hX, hM, hY] at e
 rw [hX] at hXl
 rw [hM] at hgb hltb hbl
 rw [hM, hY] at hYl
 rw [hX, hM, hY] at hstep
 rw [e] at st
 refine X_seq (X_seq (X_reg (XV rfl rfl rfl (XV rfl rfl rfl ?_))))
 refine XR_a (op_leq rfl rfl) rfl rfl ?_
 refine XR_nil ?_
 refine X_if rfl (fun h => ?_) (fun h => ?_)
 ·refine X_skip (X_block (X_seq (X_reg (XV rfl rfl rfl (XV rfl rfl rfl (XV rfl rfl rfl (XV rfl rfl rfl ?_)))))))
  refine XR_wa (opl_call (insertion_spec st.here (hcmp.here st) hXl (b := i * 20 + 20) (by omega) hltb hgb hn) rfl (by kernel_rfl)) rfl rfl rfl ?_
  rintro _ hp2 ⟨M', hp', hs', st2⟩
  replace st := st.trans st2
  refine XR_nil (X_seq (X_reg (XV rfl rfl rfl (XA rfl rfl rfl (XR_nil (X_reg (XV rfl rfl rfl (XV rfl rfl rfl ?_))))))))
  first | refine XR_a (op_addN rfl rfl (by simp only [inK]; omega)) rfl rfl ?_ | refine XR_a (op_addI rfl rfl (by simp only [inK]; omega)) rfl rfl ?_ | refine XR_a (op_add rfl rfl) rfl rfl ?_
  refine XA rfl rfl rfl (XR_nil (X_blk ?_))
  exact X_again (i + 1, X ++ (M' ++ Y)) (.cons rfl (.cons rfl (.cons rfl (.cons rfl (.cons (by rw [Nat.add_mul]; rfl) (.cons (by rw [Nat.add_mul]; rfl) (.nil _))))))) ⟨(hstep M' hp' hs').1, (hstep M' hp' hs').2, by simp only; omega, st⟩ (by simp only; omega)
 ·refine X_exit rfl (X_seq (X_reg (XV rfl rfl rfl (XV rfl rfl rfl (XV rfl rfl rfl (XV rfl rfl rfl ?_))))))
  refine XR_wa (opl_call (insertion_spec st.here (hcmp.here st) hXl (b := n) (by have := hYl; rw [e] at hll; simp only [List.length_append] at hll; rcases hYl with h1 | rfl; omega; simp at hll; omega) hltb hgb hn) rfl (by kernel_rfl)) rfl rfl rfl ?_
  rintro _ hp2 ⟨M', hp', hs', st2⟩
  replace st := st.trans st2
  refine XR_nil (X_block ?_)
  have hfirst : ∀ k', BOK key 20 (X ++ (M' ++ Y)) l0 k' := fun k' => by
   rcases Nat.lt_or_ge k' (i + 1) with h1 | h1
   ·exact (hstep M' hp' hs').1 k' h1
   ·have h2 : (i + 1) * 20 ≤ k' * 20 := Nat.mul_le_mul_right _ h1
    have h3 := st.natLen
    exact BOK.out (by omega) (by omega)
  generalize X ++ (M' ++ Y) = l1 at st hfirst
  refine X_loop (fun s => n - s.1) (fun s => [(0, .slice (some ⟨g, 0, none⟩) n c), (1, nV n), (2, .func (.func k) #[] caps), (6, nV s.1)])
   (fun (s : Nat × List Nat) hp => 1 ≤ s.1 ∧ s.1 ≤ 4398046511104 ∧ (∀ k', BOK key s.1 s.2 l0 k') ∧ St B h0 hp (rowN g n c s.2 :: F))
   (20, l1) (.cons rfl (.cons rfl (.cons rfl (.cons rfl (.nil _))))) ⟨by simp only; omega, by simp only; omega, hfirst, st⟩ ?_
  clear st hfirst hstep hYl hbl hltb hgb hXl e e2 hdone hrest
  rintro ⟨Z, l1⟩ hp3 ⟨hZ1, hZ2, hall, st⟩
  simp only at hZ1 hZ2 hall st ⊢
  refine X_seq (X_seq (X_reg (XV rfl rfl rfl (XV rfl rfl rfl ?_))))
  refine XR_a (op_lss rfl rfl) rfl rfl ?_
  refine XR_nil ?_
  refine X_if rfl (fun h => ?_) (fun h => ?_)
  ·refine X_skip (X_block (X_seq (X_reg (XV rfl rfl rfl ?_))))
   first | refine XR_a (op_mulN (m := 2) rfl rfl (by simp only [inK]; omega)) rfl rfl ?_ | refine XR_a (op_mulI rfl rfl (by simp only [inK]; omega)) rfl rfl ?_ | refine XR_a (op_mul rfl rfl) rfl rfl ?_
   refine XA rfl rfl rfl (XA rfl rfl rfl (XR_nil (X_seq (X_block ?_))))
   have hD0 : 2 * Z = 0 + 2 * Z := by omega
   refine X_loop (fun s => n + 2 * Z - s.1 * (2 * Z)) (fun s => [(0, .slice (some ⟨g, 0, none⟩) n c), (1, nV n), (2, .func (.func k) #[] caps), (6, nV Z), (7, nV (s.1 * (2 * Z))), (8, nV (s.1 * (2 * Z) + 2 * Z))])
    (fun (s : Nat × List Nat) hp => (∀ k', k' < s.1 → BOK key (2 * Z) s.2 l0 k') ∧ (∀ k', 2 * s.1 ≤ k' → BOK key Z s.2 l0 k') ∧ s.1 * (2 * Z) ≤ n ∧ St B h0 hp (rowN g n c s.2 :: F))
    (0, l1) (.cons rfl (.cons rfl (.cons rfl (.cons rfl (.cons (by rw [Nat.zero_mul]; rfl) (.cons (by simp only [Nat.zero_mul, Nat.zero_add]; rfl) (.nil _))))))) ⟨fun k' h => by simp only at h; omega, fun k' _ => hall k', by simp only; omega, st⟩ ?_
   clear st
   rintro ⟨i, l⟩ hp4 ⟨hdone, hrest, hin, st⟩
   simp only at hdone hrest hin st ⊢
   have hll := st.natLen
   have e1 : 2 * i * Z = i * (2 * Z) := by rw [Nat.mul_comm 2 i, Nat.mul_assoc]
   have e2 : (2 * i + 1) * Z = i * (2 * Z) + Z := by rw [Nat.add_mul, Nat.one_mul, e1]
   have e3 : (i + 1) * (2 * Z) = i * (2 * Z) + 2 * Z := by rw [Nat.add_mul, Nat.one_mul]
   have e4 : (2 * i + 2) * Z = i * (2 * Z) + 2 * Z := by rw [Nat.add_mul, e1]
   have hbU := blk_length (B := Z) (k := 2 * i) (l := l)
   have hbV := blk_length (B := Z) (k := 2 * i + 1) (l := l)
   have hU := hrest (2 * i) (Nat.le_refl _)
   have hV := hrest (2 * i + 1) (by omega)
   have hpre := preM_blk (key := key) hlt hU hV
   have hgU : ∀ x ∈ blk Z (2 * i) l, good x := fun x hx => hg x (mem_blk (hU.1.mem_iff.1 hx))
   have hgV : ∀ x ∈ blk Z (2 * i + 1) l, good x := fun x hx => hg x (mem_blk (hV.1.mem_iff.1 hx))
   have e := cut3 l (i * (2 * Z)) (2 * Z)
   have e5 : (l.drop (i * (2 * Z))).take (2 * Z) = blk Z (2 * i) l ++ blk Z (2 * i + 1) l := blk_double Z i l
   rw [e5] at e
   have hXl : (l.take (i * (2 * Z))).length = i * (2 * Z) := by rw [List.length_take]; omega
   have hYl : (blk Z (2 * i) l ++ blk Z (2 * i + 1) l).length = 2 * Z ∨ l.drop (i * (2 * Z) + 2 * Z) = [] := by
    rcases Nat.lt_or_ge n (i * (2 * Z) + 2 * Z) with h | h
    ·right; exact List.drop_of_length_le (by omega)
    ·left; rw [List.length_append]; omega
   have hUV : (blk Z (2 * i) l ++ blk Z (2 * i + 1) l).Perm (blk (2 * Z) i l0) := by rw [blk_double]; exact hU.1.append hV.1
   obtain ⟨X, hX⟩ : ∃ X, l.take (i * (2 * Z)) = X := ⟨_, rfl⟩
   obtain ⟨U, hUe⟩ : ∃ U, blk Z (2 * i) l = U := ⟨_, rfl⟩
   obtain ⟨V, hVe⟩ : ∃ V, blk Z (2 * i + 1) l = V := ⟨_, rfl⟩
   obtain ⟨Y, hY⟩ : ∃ Y, l.drop (i * (2 * Z) + 2 * Z) = Y := ⟨_, rfl⟩
   rw [hX, hUe, hVe, hY] at e
   rw [hX] at hXl
   rw [hUe] at hbU hgU
   rw [hVe] at hbV hgV
   rw [hUe, hVe] at hpre hUV
   rw [hUe, hVe, hY] at hYl
   have hstep : ∀ W, Mrg key U V W → (∀ k', k' < i + 1 → BOK key (2 * Z) (X ++ (W ++ Y)) l0 k') ∧ (∀ k', 2 * (i + 1) ≤ k' → BOK key Z (X ++ (W ++ Y)) l0 k') := fun W hW => by
    refine ⟨fun k' hk => ?_, fun k' hk => ?_⟩
    ·rcases Nat.lt_or_ge k' i with h | h
     ·have := hdone k' h
      rw [e] at this
      refine this.keep hW.1.length_eq (.inr ?_)
      rw [hXl]; exact Nat.mul_le_mul_right _ h
     ·obtain rfl : k' = i := by omega
      exact BOK.put hXl (by rw [List.length_append]; omega) hYl (hW.1.trans hUV) hW.1.length_eq hW.2
    ·have h2 := hrest k' (by omega)
     rw [e] at h2
     refine h2.keep hW.1.length_eq (.inl ?_)
     have h3 : (2 * i + 2) * Z ≤ k' * Z := Nat.mul_le_mul_right _ (by omega)
     rw [hXl, List.length_append]; omega
   have st1 : St B h0 hp4 (rowN g n c (X ++ (U ++ (V ++ Y))) :: F) := by rw [← List.append_assoc U, ← e]; exact st
   refine X_seq (X_seq (X_reg (XV rfl rfl rfl (XV rfl rfl rfl ?_))))
   refine XR_a (op_leq rfl rfl) rfl rfl ?_
   refine XR_nil ?_
   refine X_if rfl (fun h => ?_) (fun h => ?_)
   ·refine X_skip (X_block (X_seq (X_reg (XV rfl rfl rfl (XV rfl rfl rfl (XV rfl rfl rfl (XV rfl rfl rfl ?_)))))))
    first | refine XR_a (op_addN rfl rfl (by simp only [inK]; omega)) rfl rfl ?_ | refine XR_a (op_addI rfl rfl (by simp only [inK]; omega)) rfl rfl ?_ | refine XR_a (op_add rfl rfl) rfl rfl ?_
    refine XV rfl rfl rfl (XV rfl rfl rfl ?_)
    refine XR_wa (opl_call (symMerge_spec _ g n c _ (i * (2 * Z) + Z) _ X U V Y _ st1.here (hcmp.here st1) hXl (by omega) (by omega) (by omega) (by omega) (Nat.le_refl _) hpre hgU hgV hn) rfl (by kernel_rfl)) rfl rfl rfl ?_
    rintro _ hp5 ⟨W, hW, st2⟩
    replace st := st1.trans st2
    refine XR_nil (X_seq (X_reg (XV rfl rfl rfl (XA rfl rfl rfl (XR_nil (X_reg (XV rfl rfl rfl (XV rfl rfl rfl ?_))))))))
    first | refine XR_a (op_mulN (m := 2) rfl rfl (by simp only [inK]; omega)) rfl rfl ?_ | refine XR_a (op_mulI rfl rfl (by simp only [inK]; omega)) rfl rfl ?_ | refine XR_a (op_mul rfl rfl) rfl rfl ?_
    first | refine XR_a (op_addN rfl rfl (by simp only [inK]; omega)) rfl rfl ?_ | refine XR_a (op_addI rfl rfl (by simp only [inK]; omega)) rfl rfl ?_ | refine XR_a (op_add rfl rfl) rfl rfl ?_
    refine XA rfl rfl rfl (XR_nil (X_blk ?_))
    exact X_again (i + 1, X ++ (W ++ Y)) (.cons rfl (.cons rfl (.cons rfl (.cons rfl (.cons (by simp only; rw [e3]; rfl) (.cons (by simp only; rw [e3]; rfl) (.nil _))))))) ⟨(hstep W hW).1, (hstep W hW).2, by simp only; omega, st⟩ (by simp only; omega)
   ·refine X_exit rfl (X_seq (X_seq (X_reg (XV rfl rfl rfl (XV rfl rfl rfl ?_)))))
    first | refine XR_a (op_addN rfl rfl (by simp only [inK]; omega)) rfl rfl ?_ | refine XR_a (op_addI rfl rfl (by simp only [inK]; omega)) rfl rfl ?_ | refine XR_a (op_add rfl rfl) rfl rfl ?_
    refine XA rfl rfl rfl (XR_nil (X_seq (X_reg (XV rfl rfl rfl (XV rfl rfl rfl ?_)))))
    refine XR_a (op_lss rfl rfl) rfl rfl ?_
    refine XR_nil ?_
    refine X_if rfl (fun h => ?_) (fun h => ?_)
    ·refine X_reg (XV rfl rfl rfl (XV rfl rfl rfl (XV rfl rfl rfl (XV rfl rfl rfl (XV rfl rfl rfl ?_)))))
     refine XR_wa (opl_call (symMerge_spec _ g n c _ (i * (2 * Z) + Z) _ X U V Y _ st1.here (hcmp.here st1) hXl (by omega) (by omega) (by omega) (by omega) (Nat.le_refl _) hpre hgU hgV hn) rfl (by kernel_rfl)) rfl rfl rfl ?_
     rintro _ hp5 ⟨W, hW, st2⟩
     replace st := st1.trans st2
     refine XR_nil (X_reg (XV rfl rfl rfl ?_))
     first | refine XR_a (op_mulN (n := 2) rfl rfl (by simp only [inK]; omega)) rfl rfl ?_ | refine XR_a (op_mulI rfl rfl (by simp only [inK]; omega)) rfl rfl ?_ | refine XR_a (op_mul rfl rfl) rfl rfl ?_
     refine XA rfl rfl rfl (XR_nil (X_blk ?_))
     refine X_again (2 * Z, X ++ (W ++ Y)) (.cons rfl (.cons rfl (.cons rfl (.cons (by simp only; rw [Nat.mul_comm 2 Z]; rfl) (.nil _))))) ⟨by simp only; omega, by simp only; omega, fun k' => ?_, st⟩ (by simp only; omega)
     show BOK key (2 * Z) (X ++ (W ++ Y)) l0 k'
     rcases Nat.lt_or_ge k' (i + 1) with h1 | h1
     ·exact (hstep W hW).1 k' h1
     ·have h2 : (i + 1) * (2 * Z) ≤ k' * (2 * Z) := Nat.mul_le_mul_right _ h1
      have h3 := st.natLen
      exact BOK.out (by omega) (by omega)
    ·refine X_skip (X_reg (XV rfl rfl rfl ?_))
     first | refine XR_a (op_mulN (n := 2) rfl rfl (by simp only [inK]; omega)) rfl rfl ?_ | refine XR_a (op_mulI rfl rfl (by simp only [inK]; omega)) rfl rfl ?_ | refine XR_a (op_mul rfl rfl) rfl rfl ?_
     refine XA rfl rfl rfl (XR_nil (X_blk ?_))
     refine X_again (2 * Z, l) (.cons rfl (.cons rfl (.cons rfl (.cons (by simp only; rw [Nat.mul_comm 2 Z]; rfl) (.nil _))))) ⟨by simp only; omega, by simp only; omega, fun k' => ?_, st⟩ (by simp only; omega)
     show BOK key (2 * Z) l l0 k'
     rcases Nat.lt_trichotomy k' i with h1 | h1 | h1
     ·exact hdone k' h1
     ·subst h1
      exact BOK.double (by omega) (by omega) hU
     ·have h2 : (i + 1) * (2 * Z) ≤ k' * (2 * Z) := Nat.mul_le_mul_right _ h1
      exact BOK.out (by omega) (by omega)
  ·refine X_exit rfl ?_
   refine X_end .nil ?_
   have hll := st.natLen
   have h0' := hall 0
   unfold BOK at h0'
   rw [blk_all (by omega), blk_all (by omega)] at h0'
   exact ⟨l1, h0'.1, h0'.2, st⟩
theorem sortStable_spec {B g n c k : Nat} {l0 : List Nat} {caps : Array Value} {key : Nat → Nat} {good : Nat → Prop} {F : List Res} {h0 : Heap} (st0 : St B h0 h0 (rowN g n c l0 :: F)) (hcmp : CmpOK B h0 F k caps key good)
  (hlt : l0.Pairwise (· < ·)) (hg : ∀ x ∈ l0, good x) (hn : n ≤ 1099511627776) :
  Ret Try.prog 106 [.slice (some ⟨g, 0, none⟩) n c, .func (.func k) #[] caps] h0 fun _ h' => ∃ l, l.Perm l0 ∧ RkS key l ∧ St B h0 h' (rowN g n c l :: F) := by
 refine ret_of_X Try.func106 rfl rfl fun w0 hw0 => ?_
 simp only [argE, Nat.zero_add, Nat.reduceAdd]
 refine X_reg (XV rfl rfl rfl (XV rfl rfl rfl ?_))
 refine XR_a (op_len rfl rfl rfl) rfl rfl ?_
 refine XV rfl rfl rfl ?_
 refine XR_wa (opl_call (stable_spec st0 hcmp hlt hg hn) rfl (by kernel_rfl)) rfl rfl rfl ?_
 rintro _ hp h
 refine XR_nil ?_
 refine X_end .nil ?_
 exact h
theorem isNaN_spec {x : Int} {h0 : Heap} : Ret Try.prog 133 [.int .i64 x] h0 fun v h' => v = .bool false ∧ h0 = h' := by
 refine ret_of_X Try.func133 rfl rfl fun w0 hw0 => ?_
 simp only [argE, Nat.zero_add, Nat.reduceAdd]
 refine X_seq (X_reg (XA rfl rfl rfl (XR_nil (X_seq (X_reg (XV rfl rfl rfl (XV rfl rfl rfl ?_)))))))
 refine XR_a (op_neq rfl rfl) rfl rfl ?_
 refine XA rfl rfl rfl (XR_nil ?_)
 refine X_ret (.cons (.tmp rfl) .nil) ?_
 exact ⟨congrArg Value.bool (decide_eq_false fun h => h rfl), rfl⟩
theorem compare_spec {x y : Nat} {h0 : Heap} : Ret Try.prog 108 [nV x, nV y] h0 fun v h' => v = .int .i64 (cmpI x y) ∧ h0 = h' := by
 refine ret_of_X Try.func108 rfl rfl fun w0 hw0 => ?_
 simp only [argE, Nat.zero_add, Nat.reduceAdd]
 refine X_seq (X_reg (XA rfl rfl rfl (XR_nil (X_seq (X_reg (XV rfl rfl rfl ?_))))))
 refine XR_wa (opl_call (isNaN_spec) rfl (by kernel_rfl)) rfl rfl rfl ?_
 rintro _ _ ⟨rfl, rfl⟩
 refine XA rfl rfl rfl (XR_nil (X_seq (X_reg (XV rfl rfl rfl ?_))))
 refine XR_wa (opl_call (isNaN_spec) rfl (by kernel_rfl)) rfl rfl rfl ?_
 rintro _ _ ⟨rfl, rfl⟩
 refine XA rfl rfl rfl (XR_nil (X_seq (X_seq (X_reg (XV rfl rfl rfl (XR_nil (X_else rfl (X_skip (X_seq ?_)))))))))
 refine X_seq (X_reg (XV rfl rfl rfl (XR_nil (X_else rfl (X_skip (X_seq (X_seq (X_reg (XV rfl rfl rfl ?_)))))))))
 refine XV rfl rfl rfl ?_
 refine XR_a (op_lss rfl rfl) rfl rfl ?_
 refine XR_nil ?_
 refine X_if rfl (fun h => ?_) (fun h => ?_)
 ·refine X_seq (X_reg (XA rfl rfl rfl (XR_nil ?_)))
  refine X_ret (.cons (.tmp rfl) .nil) ?_
  unfold cmpI
  exact ⟨by rw [if_pos (by omega)]; rfl, rfl⟩
 ·refine X_skip (X_seq (X_seq (X_reg (XV rfl rfl rfl (XV rfl rfl rfl ?_)))))
  refine XR_a (op_gtr rfl rfl) rfl rfl ?_
  refine XR_nil ?_
  refine X_if rfl (fun h => ?_) (fun h => ?_)
  ·refine X_seq (X_reg (XA rfl rfl rfl (XR_nil ?_)))
   refine X_ret (.cons (.tmp rfl) .nil) ?_
   unfold cmpI
   exact ⟨by rw [if_neg (by omega), if_pos (by omega)]; rfl, rfl⟩
  ·refine X_skip (X_seq (X_reg (XA rfl rfl rfl (XR_nil ?_))))
   refine X_ret (.cons (.tmp rfl) .nil) ?_
   unfold cmpI
   exact ⟨by rw [if_neg (by omega), if_neg (by omega)]; rfl, rfl⟩
end Go.Bn
end

section
set_option linter.unusedVariables false
set_option linter.unusedSimpArgs false
namespace Go.Bn
abbrev PE := Nat × List Nat
def lePE (a b : PE) : Bool := decide (a.1 ≤ b.1)
theorem lePE_iff {a b : PE} : lePE a b = true ↔ a.1 ≤ b.1 := by unfold lePE; simp
def pairsE : List PE → List PE
  | a :: b :: r => (a.1 + b.1, a.2 ++ b.2) :: pairsE r
  | _ => []
def itemsE (ws : List Nat) : List PE := (List.range ws.length).map fun i => (ws.getD i 0, [i])
def rowE (ws : List Nat) : Nat → List PE
  | 0 => []
  | j + 1 => (itemsE ws).merge (pairsE (rowE ws j)) lePE
abbrev Asc (l : List PE) : Prop := l.Pairwise fun a b => a.1 ≤ b.1
theorem asc_head {x : PE} {l : List PE} (h : Asc (x :: l)) {b : Nat} (hb : b < (x :: l).length) : x.1 ≤ (x :: l)[b].1 := by
 cases b with
 | zero => exact Nat.le_refl _
 | succ b => exact (List.pairwise_cons.1 h).1 _ (List.getElem_mem _)
theorem merge_take : ∀ (xs ys : List PE) (t : Nat), t ≤ xs.length + ys.length → Asc xs → ∃ a b, a ≤ xs.length ∧ b ≤ ys.length ∧ a + b = t ∧ ((xs.merge ys lePE).take t).Perm (xs.take a ++ ys.take b) ∧
  ∀ i k, (hi : i < xs.length) → (hk : k < ys.length) → k < b → xs[i].1 ≤ ys[k].1 → i < a
 | [], ys, t, ht, _ => ⟨0, t, Nat.le_refl _, by simpa using ht, by omega, by simp, fun i k hi => by simp at hi⟩
 | x :: xs, [], t, ht, _ => ⟨t, 0, by simpa using ht, Nat.le_refl _, by omega, by simp, fun i k _ hk => by simp at hk⟩
 | x :: xs, y :: ys, 0, ht, _ => ⟨0, 0, Nat.zero_le _, Nat.zero_le _, rfl, by simp, fun i k _ _ hk => by omega⟩
 | x :: xs, y :: ys, t + 1, ht, hs => by
  by_cases h : lePE x y = true
  ·obtain ⟨a, b, h1, h2, h3, h4, h5⟩ := merge_take xs (y :: ys) t (by simp at ht ⊢; omega) (List.pairwise_cons.1 hs).2
   refine ⟨a + 1, b, by simp; omega, h2, by omega, ?_, ?_⟩
   ·rw [List.cons_merge_cons_pos _ _ _ h, List.take_succ_cons, List.take_succ_cons, List.cons_append]
    exact h4.cons _
   ·intro i k hi hk hkb hle
    cases i with
    | zero => omega
    | succ i => have := h5 i k (by simpa using hi) hk hkb hle; omega
  ·obtain ⟨a, b, h1, h2, h3, h4, h5⟩ := merge_take (x :: xs) ys t (by simp at ht ⊢; omega) hs
   refine ⟨a, b + 1, h1, by simp; omega, by omega, ?_, ?_⟩
   ·rw [List.cons_merge_cons_neg _ _ _ h, List.take_succ_cons, List.take_succ_cons]
    exact (h4.cons _).trans List.perm_middle.symm
   ·intro i k hi hk hkb hle
    cases k with
    | zero =>
     have h6 := asc_head hs hi
     rw [lePE_iff] at h
     simp only [List.getElem_cons_zero] at hle
     omega
    | succ k => exact h5 i k hi (by simpa using hk) (by omega) hle
 termination_by xs ys => xs.length + ys.length
theorem itemsE_length (ws : List Nat) : (itemsE ws).length = ws.length := by simp [itemsE]
theorem itemsE_get {ws : List Nat} {i : Nat} (h : i < ws.length) : (itemsE ws)[i]'(by rw [itemsE_length]; exact h) = (ws[i], [i]) := by
 simp [itemsE, List.getD, h]
theorem pairsE_length : ∀ l : List PE, (pairsE l).length = l.length / 2
 | [] => rfl
 | [_] => by simp [pairsE]
 | a :: b :: r => by
  rw [pairsE, List.length_cons, pairsE_length r, List.length_cons, List.length_cons]; omega
theorem pairsE_has : ∀ (b : Nat) (l : List PE), 2 * b ≤ l.length → ((pairsE l).take b).flatMap (·.2) = (l.take (2 * b)).flatMap (·.2)
 | 0, l, _ => by simp
 | b + 1, [], h => by simp at h
 | b + 1, [_], h => by simp at h; omega
 | b + 1, x :: y :: r, h => by
  have ih := pairsE_has b r (by simp at h; omega)
  rw [show 2 * (b + 1) = (2 * b + 1) + 1 by omega, pairsE, List.take_succ_cons, List.take_succ_cons, List.take_succ_cons]
  simp only [List.flatMap_cons, List.append_assoc] at ih ⊢
  rw [ih]
theorem pairsE_get : ∀ (k : Nat) (l : List PE) (h : k < (pairsE l).length) (h1 : 2 * k + 1 < l.length), (pairsE l)[k].1 = (l[2 * k]'(by omega)).1 + l[2 * k + 1].1
 | _, [], h, _ => by simp [pairsE] at h
 | _, [_], h, _ => by simp [pairsE] at h
 | 0, x :: y :: r, h, _ => by simp [pairsE]
 | k + 1, x :: y :: r, h, h1 => by
  have ih := pairsE_get k r (by simp [pairsE] at h; exact h) (by simp at h1; omega)
  simp only [pairsE, List.getElem_cons_succ, ih, show 2 * (k + 1) = 2 * k + 1 + 1 by omega]
theorem pairsE_mem : ∀ {l : List PE} {p : PE}, p ∈ pairsE l → ∃ u v, u ∈ l ∧ v ∈ l ∧ p = (u.1 + v.1, u.2 ++ v.2)
 | [], p, h => by simp [pairsE] at h
 | [_], p, h => by simp [pairsE] at h
 | x :: y :: r, p, h => by
  rw [pairsE, List.mem_cons] at h
  rcases h with rfl | h
  ·exact ⟨x, y, by simp, by simp, rfl⟩
  ·obtain ⟨u, v, h1, h2, h3⟩ := pairsE_mem h
   exact ⟨u, v, by simp [h1], by simp [h2], h3⟩
theorem pairsE_asc : ∀ {l : List PE}, Asc l → Asc (pairsE l)
 | [], _ => by simp [pairsE]
 | [_], _ => by simp [pairsE]
 | x :: y :: r, h => by
  rw [pairsE, Asc, List.pairwise_cons]
  obtain ⟨h1, h2⟩ := List.pairwise_cons.1 h
  obtain ⟨h3, h4⟩ := List.pairwise_cons.1 h2
  refine ⟨fun p hp => ?_, pairsE_asc h4⟩
  obtain ⟨u, v, hu, hv, rfl⟩ := pairsE_mem hp
  have := h1 u (by simp [hu])
  have := h3 v hv
  simp only; omega
theorem itemsE_asc {ws : List Nat} (h : ws.Pairwise (· ≤ ·)) : Asc (itemsE ws) := by
 rw [Asc, List.pairwise_iff_getElem]
 intro i j hi hj hij
 rw [itemsE_length] at hi hj
 rw [itemsE_get hi, itemsE_get hj]
 exact List.pairwise_iff_getElem.1 h i j hi hj hij
theorem merge_asc {xs ys : List PE} (hx : Asc xs) (hy : Asc ys) : Asc (xs.merge ys lePE) := by
 have h := List.pairwise_merge (le := lePE) (fun a b c h1 h2 => by rw [lePE_iff] at *; omega) (fun a b => by simp [lePE]; omega) xs ys
  (hx.imp fun h => lePE_iff.2 h) (hy.imp fun h => lePE_iff.2 h)
 exact h.imp fun h => lePE_iff.1 h
theorem rowE_asc {ws : List Nat} (h : ws.Pairwise (· ≤ ·)) : ∀ j, Asc (rowE ws j)
 | 0 => List.Pairwise.nil
 | j + 1 => merge_asc (itemsE_asc h) (pairsE_asc (rowE_asc h j))
theorem rowE_len (ws : List Nat) (j : Nat) : (rowE ws (j + 1)).length = ws.length + (rowE ws j).length / 2 := by
 rw [rowE, List.length_merge, itemsE_length, pairsE_length]
theorem rowE_lack (ws : List Nat) (h : 1 ≤ ws.length) : ∀ j, ∃ d, (rowE ws (j + 1)).length + d = 2 * ws.length ∧ 1 ≤ d ∧ d ≤ ws.length / 2 ^ j + 1
 | 0 => ⟨ws.length, by rw [rowE_len]; simp [rowE]; omega, h, by rw [Nat.pow_zero, Nat.div_one]; omega⟩
 | j + 1 => by
  obtain ⟨d, h1, h2, h3⟩ := rowE_lack ws h j
  have e := rowE_len ws (j + 1)
  have e2 : ws.length / 2 ^ (j + 1) = ws.length / 2 ^ j / 2 := by rw [Nat.pow_succ, Nat.div_div_eq_div_mul]
  rw [e2]
  generalize ws.length / 2 ^ j = q at *
  exact ⟨(d + 1) / 2, by omega, by omega, by omega⟩
theorem rowE_len15 (ws : List Nat) (h : 1 ≤ ws.length) (h2 : ws.length ≤ 16000) : (rowE ws 15).length = 2 * ws.length - 1 := by
 obtain ⟨d, h3, h4, h5⟩ := rowE_lack ws h 14
 have e : ws.length / 2 ^ 14 = 0 := Nat.div_eq_of_lt (Nat.lt_of_le_of_lt h2 (by decide))
 rw [e] at h5
 have e3 : rowE ws (14 + 1) = rowE ws 15 := rfl
 rw [e3] at h3
 omega
theorem rowE_bd (ws : List Nat) : ∀ j, (rowE ws j).length ≤ 2 * ws.length
 | 0 => Nat.zero_le _
 | j + 1 => by have := rowE_bd ws j; rw [rowE_len]; omega
theorem rowE_has {ws : List Nat} : ∀ j, ∀ e ∈ rowE ws j, 1 ≤ e.2.length
 | 0, e, h => by simp [rowE] at h
 | j + 1, e, h => by
  rw [rowE, List.mem_merge] at h
  rcases h with h | h
  ·simp only [itemsE, List.mem_map] at h
   obtain ⟨i, _, rfl⟩ := h; simp
  ·obtain ⟨u, v, hu, hv, rfl⟩ := pairsE_mem h
   have := rowE_has j u hu
   simp only [List.length_append]; omega
theorem pairsE_has2 {ws : List Nat} {j : Nat} : ∀ e ∈ pairsE (rowE ws j), 2 ≤ e.2.length := by
 intro e h
 obtain ⟨u, v, hu, hv, rfl⟩ := pairsE_mem h
 have := rowE_has j u hu
 have := rowE_has j v hv
 simp only [List.length_append]; omega
def isItem (e : PE) : Bool := e.2.length == 1
def numI (ws : List Nat) (j t : Nat) : Nat := ((rowE ws j).take t).countP isItem
def lev (ws : List Nat) : Nat → Nat → List Nat
  | 0, _ => []
  | j + 1, t => numI ws (j + 1) t :: lev ws j (2 * (t - numI ws (j + 1) t))
theorem lev_length (ws : List Nat) : ∀ j t, (lev ws j t).length = j
 | 0, _ => rfl
 | j + 1, t => by rw [lev, List.length_cons, lev_length ws j]
theorem row_take {ws : List Nat} (h : ws.Pairwise (· ≤ ·)) (j t : Nat) (ht : t ≤ (rowE ws (j + 1)).length) :
  numI ws (j + 1) t ≤ t ∧ numI ws (j + 1) t ≤ ws.length ∧ 2 * (t - numI ws (j + 1) t) ≤ (rowE ws j).length ∧
  ((rowE ws (j + 1)).take t).Perm ((itemsE ws).take (numI ws (j + 1) t) ++ (pairsE (rowE ws j)).take (t - numI ws (j + 1) t)) ∧
  ∀ i k, (hi : i < ws.length) → (hk : k < (pairsE (rowE ws j)).length) → k < t - numI ws (j + 1) t → ws[i] ≤ (pairsE (rowE ws j))[k].1 → i < numI ws (j + 1) t := by
 rw [rowE, List.length_merge] at ht
 obtain ⟨a, b, h1, h2, h3, h4, h5⟩ := merge_take (itemsE ws) (pairsE (rowE ws j)) t ht (itemsE_asc h)
 have hn : numI ws (j + 1) t = a := by
  unfold numI
  rw [rowE, h4.countP_eq, List.countP_append]
  have e1 : ((itemsE ws).take a).countP isItem = a := by
   rw [List.countP_eq_length.2, List.length_take, Nat.min_eq_left h1]
   intro e he
   have := List.mem_of_mem_take he
   simp only [itemsE, List.mem_map] at this
   obtain ⟨i, _, rfl⟩ := this; rfl
  have e2 : ((pairsE (rowE ws j)).take b).countP isItem = 0 := by
   rw [List.countP_eq_zero]
   intro e he
   have := pairsE_has2 e (List.mem_of_mem_take he)
   unfold isItem
   rw [beq_iff_eq]; omega
  rw [e1, e2]; rfl
 rw [hn]
 obtain rfl : b = t - a := by omega
 rw [itemsE_length] at h1
 rw [pairsE_length] at h2
 refine ⟨by omega, h1, by omega, h4, fun i k hi hk hkb hle => h5 i k (by rw [itemsE_length]; exact hi) hk hkb ?_⟩
 rw [itemsE_get hi]; exact hle
theorem items_has {ws : List Nat} {a : Nat} (ha : a ≤ ws.length) : ((itemsE ws).take a).flatMap (·.2) = List.range a := by
 unfold itemsE
 rw [← List.map_take, List.take_range, Nat.min_eq_left ha]
 induction a with
 | zero => rfl
 | succ a ih => rw [List.range_succ, List.map_append, List.flatMap_append, ih (by omega)]; simp
theorem count_range (a i : Nat) : (List.range a).count i = if i < a then 1 else 0 := by
 induction a with
 | zero => simp
 | succ a ih =>
  rw [List.range_succ, List.count_append, ih, List.count_singleton]
  by_cases h1 : i < a
  ·have : (a == i) = false := by simp; omega
   rw [this, if_pos h1, if_pos (by omega : i < a + 1)]; rfl
  ·by_cases h2 : a = i
   ·subst h2
    rw [if_neg h1, if_pos (by omega : a < a + 1)]; simp
   ·have : (a == i) = false := by simp [h2]
    rw [this, if_neg h1, if_neg (by omega : ¬ i < a + 1)]; rfl
theorem count_lev {ws : List Nat} (h : ws.Pairwise (· ≤ ·)) : ∀ (j t : Nat), t ≤ (rowE ws j).length → ∀ i, (((rowE ws j).take t).flatMap (·.2)).count i = (lev ws j t).countP (fun a => decide (i < a))
 | 0, t, _, i => by simp [rowE, lev]
 | j + 1, t, ht, i => by
  obtain ⟨h1, h2, h3, h4, _⟩ := row_take h j t ht
  have ih := count_lev h j _ h3 i
  rw [(h4.flatMap_right _).count_eq, List.flatMap_append, List.count_append, items_has h2, count_range, pairsE_has _ _ h3, ih, lev, List.countP_cons, Nat.add_comm]
  simp
theorem lev_le {ws : List Nat} (h : ws.Pairwise (· ≤ ·)) : ∀ (j t : Nat), t ≤ (rowE ws j).length → ∀ a ∈ lev ws j t, a ≤ ws.length
 | 0, t, _, a, ha => by simp [lev] at ha
 | j + 1, t, ht, a, ha => by
  obtain ⟨h1, h2, h3, h4, _⟩ := row_take h j t ht
  rw [lev, List.mem_cons] at ha
  rcases ha with rfl | ha
  ·exact h2
  ·exact lev_le h j _ h3 a ha
theorem lev_next {ws : List Nat} (h : ws.Pairwise (· ≤ ·)) (j t : Nat) (ht : t ≤ (rowE ws (j + 1 + 1)).length) :
  numI ws (j + 1) (2 * (t - numI ws (j + 1 + 1) t)) ≤ numI ws (j + 1 + 1) t := by
 obtain ⟨h1, h2, h3, h4, h5⟩ := row_take h (j + 1) t ht
 obtain ⟨b, hb⟩ : ∃ b, t - numI ws (j + 1 + 1) t = b := ⟨_, rfl⟩
 obtain ⟨a, ha⟩ : ∃ a, numI ws (j + 1 + 1) t = a := ⟨_, rfl⟩
 rw [hb] at h3 h5 ⊢
 rw [ha] at h5 h2 ⊢
 obtain ⟨k1, k2, k3, k4, _⟩ := row_take h j (2 * b) h3
 obtain ⟨a', ha'⟩ : ∃ a', numI ws (j + 1) (2 * b) = a' := ⟨_, rfl⟩
 rw [ha'] at k1 k2 k4 ⊢
 rcases Nat.eq_zero_or_pos a' with h0 | h0
 ·omega
 have hi : a' - 1 < ws.length := by omega
 have hmem : (ws[a' - 1], [a' - 1]) ∈ (rowE ws (j + 1)).take (2 * b) := by
  rw [k4.mem_iff, List.mem_append]
  left
  rw [List.mem_take_iff_getElem]
  exact ⟨a' - 1, by rw [itemsE_length]; omega, itemsE_get hi⟩
 obtain ⟨q, hq, he⟩ := List.mem_take_iff_getElem.1 hmem
 have hqb : q < 2 * b := by omega
 have hlen := pairsE_length (rowE ws (j + 1))
 have := h5 (a' - 1) (q / 2) hi (by omega) (by omega) (by
  rw [pairsE_get (q / 2) _ (by omega) (by omega)]
  rcases Nat.mod_two_eq_zero_or_one q with hm | hm
  ·have e : 2 * (q / 2) = q := by omega
   simp only [e, he]; omega
  ·have e : 2 * (q / 2) + 1 = q := by omega
   simp only [e, he]; omega)
 omega
theorem lev_desc {ws : List Nat} (h : ws.Pairwise (· ≤ ·)) : ∀ (j t : Nat), t ≤ (rowE ws j).length → (lev ws j t).Pairwise (· ≥ ·)
 | 0, t, _ => List.Pairwise.nil
 | 1, t, _ => by simp [lev]
 | j + 1 + 1, t, ht => by
  obtain ⟨h1, h2, h3, h4, _⟩ := row_take h (j + 1) t ht
  have ih := lev_desc h (j + 1) _ h3
  have hn := lev_next h j t ht
  rw [lev]
  rw [lev] at ih ⊢
  refine List.pairwise_cons.2 ⟨fun a ha => ?_, ih⟩
  rcases List.mem_cons.1 ha with rfl | ha
  ·exact hn
  ·exact Nat.le_trans ((List.pairwise_cons.1 ih).1 a ha) hn
def widL : List Nat → Nat
  | [] => 0
  | a :: axs => a * 2 ^ axs.length + widL axs
theorem wid_lev {ws : List Nat} (h : ws.Pairwise (· ≤ ·)) : ∀ (j t : Nat), t ≤ (rowE ws j).length → 2 * widL (lev ws j t) = t * 2 ^ j
 | 0, t, ht => by
  obtain rfl : t = 0 := by simpa [rowE] using ht
  rfl
 | j + 1, t, ht => by
  obtain ⟨h1, h2, h3, h4, _⟩ := row_take h j t ht
  have ih := wid_lev h j _ h3
  rw [lev, widL, lev_length, Nat.mul_add, ih]
  obtain ⟨d, hd⟩ : ∃ d, t = numI ws (j + 1) t + d := ⟨t - numI ws (j + 1) t, by omega⟩
  generalize numI ws (j + 1) t = a at *
  subst hd
  rw [show a + d - a = d by omega, Nat.pow_succ, Nat.add_mul, Nat.mul_assoc 2 d, Nat.mul_comm (2 ^ j) 2, Nat.mul_left_comm 2 a, Nat.mul_left_comm 2 d]
end Go.Bn
end

section
set_option linter.unusedVariables false
set_option linter.unusedSimpArgs false
namespace Go.Bn
def wkey (ws : List Nat) (s : Nat) : Nat := ws.getD s 0
def flt (ws : List Nat) : List Nat := (List.range ws.length).filter fun s => decide (0 < wkey ws s)
theorem exists_spot {key : Nat → Nat} {S : List Nat} {x : Nat} : ∀ p, p ≤ S.length → (S.length ≤ p ∨ key x < key (S.getD p 0)) → ∃ q, q ≤ S.length ∧ (q = 0 ∨ key (S.getD (q - 1) 0) ≤ key x) ∧ (S.length ≤ q ∨ key x < key (S.getD q 0))
 | 0, h, h2 => ⟨0, h, .inl rfl, h2⟩
 | p + 1, h, h2 => by
  by_cases hk : key (S.getD p 0) ≤ key x
  ·exact ⟨p + 1, h, .inr hk, h2⟩
  ·exact exists_spot p (by omega) (.inr (by omega))
theorem exists_sorted (key : Nat → Nat) : ∀ (n : Nat) (M : List Nat), M.length = n → M.Pairwise (· < ·) → ∃ l, l.Perm M ∧ RkS key l
 | 0, M, h, _ => ⟨[], by rw [List.eq_nil_of_length_eq_zero h], List.Pairwise.nil⟩
 | n + 1, M, h, hM => by
  obtain ⟨x, M', rfl⟩ : ∃ x M', M = M' ++ [x] := by
   rcases List.eq_nil_or_concat M with rfl | ⟨M', x, rfl⟩
   ·simp at h
   ·exact ⟨x, M', by simp⟩
  obtain ⟨h1, _, h3⟩ := List.pairwise_append.1 hM
  obtain ⟨S, hS, hs⟩ := exists_sorted key n M' (by simpa using h) h1
  have hpre : PreM key S [x] := ⟨hs, by simp, fun u hu v hv _ => h3 u (hS.mem_iff.1 hu) v hv⟩
  obtain ⟨q, q1, q2, q3⟩ := exists_spot (key := key) (S := S) (x := x) S.length (Nat.le_refl _) (.inl (Nat.le_refl _))
  obtain ⟨m1, m2⟩ := mrg_right hpre q1 q2 q3
  exact ⟨_, m1.trans (hS.append_right _), m2⟩
theorem flt_asc (ws : List Nat) : (flt ws).Pairwise (· < ·) := List.Pairwise.sublist List.filter_sublist List.pairwise_lt_range
noncomputable def syms (ws : List Nat) : List Nat := Classical.choose (exists_sorted (wkey ws) _ (flt ws) rfl (flt_asc ws))
theorem syms_spec (ws : List Nat) : (syms ws).Perm (flt ws) ∧ RkS (wkey ws) (syms ws) := Classical.choose_spec (exists_sorted (wkey ws) _ (flt ws) rfl (flt_asc ws))
theorem syms_eq {ws l : List Nat} (h : l.Perm (flt ws)) (h2 : RkS (wkey ws) l) : l = syms ws := rk_unique h2 (syms_spec ws).2 (h.trans (syms_spec ws).1.symm)
theorem mem_syms {ws : List Nat} {s : Nat} : s ∈ syms ws ↔ s < ws.length ∧ 0 < wkey ws s := by
 rw [(syms_spec ws).1.mem_iff]; simp [flt]
theorem syms_len (ws : List Nat) : (syms ws).length ≤ ws.length := by
 rw [(syms_spec ws).1.length_eq]
 have := List.length_filter_le (fun s => decide (0 < wkey ws s)) (List.range ws.length)
 rwa [List.length_range] at this
theorem syms_nodup (ws : List Nat) : (syms ws).Nodup := by
 refine (syms_spec ws).2.imp fun {a b} h e => ?_
 subst e
 unfold Rk at h; omega
noncomputable def sws (ws : List Nat) : List Nat := (syms ws).map (wkey ws)
theorem sws_length (ws : List Nat) : (sws ws).length = (syms ws).length := by simp [sws]
theorem sws_asc (ws : List Nat) : (sws ws).Pairwise (· ≤ ·) := by
 unfold sws
 rw [List.pairwise_map]
 exact (syms_spec ws).2.imp fun h => h.le
def lvl (L : List Nat) (i : Nat) : Nat := L.countP fun a => decide (i < a)
noncomputable def levW (ws : List Nat) : List Nat := match (syms ws).length with
  | 0 => []
  | 1 => [1]
  | n => lev (sws ws) 15 (2 * n - 2)
noncomputable def lenW (ws : List Nat) (s : Nat) : Nat := lvl (levW ws) ((syms ws).idxOf s)
noncomputable def lensW (ws : List Nat) : List Nat := (List.range ws.length).map (lenW ws)
theorem lensW_length (ws : List Nat) : (lensW ws).length = ws.length := by simp [lensW]
theorem levW_two {ws : List Nat} (h : 2 ≤ (syms ws).length) : levW ws = lev (sws ws) 15 (2 * (syms ws).length - 2) := by
 unfold levW
 match hn : (syms ws).length, h with
 | n + 2, _ => rfl
theorem rowW_len {ws : List Nat} (h : 2 ≤ (syms ws).length) (h2 : ws.length ≤ 16000) : 2 * (syms ws).length - 2 ≤ (rowE (sws ws) 15).length := by
 have := syms_len ws
 have hl := sws_length ws
 rw [rowE_len15 _ (by omega) (by omega)]; omega
theorem levW_le {ws : List Nat} (h2 : ws.length ≤ 16000) : ∀ a ∈ levW ws, a ≤ (syms ws).length := by
 intro a ha
 rcases Nat.lt_or_ge (syms ws).length 2 with h | h
 ·unfold levW at ha
  match hn : (syms ws).length, h with
  | 0, _ => rw [hn] at ha; simp at ha
  | 1, _ => rw [hn] at ha; simp at ha; omega
 ·rw [levW_two h] at ha
  have := lev_le (sws_asc ws) 15 _ (rowW_len h h2) a ha
  rwa [sws_length] at this
theorem levW_desc {ws : List Nat} (h2 : ws.length ≤ 16000) : (levW ws).Pairwise (· ≥ ·) := by
 rcases Nat.lt_or_ge (syms ws).length 2 with h | h
 ·unfold levW
  match hn : (syms ws).length, h with
  | 0, _ => simp
  | 1, _ => simp
 ·rw [levW_two h]; exact lev_desc (sws_asc ws) 15 _ (rowW_len h h2)
theorem levW_length {ws : List Nat} : (levW ws).length ≤ 15 := by
 rcases Nat.lt_or_ge (syms ws).length 2 with h | h
 ·unfold levW
  match hn : (syms ws).length, h with
  | 0, _ => simp
  | 1, _ => simp
 ·rw [levW_two h, lev_length]; exact Nat.le_refl _
theorem lenW_le (ws : List Nat) (s : Nat) : lenW ws s ≤ 15 := by
 have := List.countP_le_length (p := fun a => decide ((syms ws).idxOf s < a)) (l := levW ws)
 have := levW_length (ws := ws)
 unfold lenW lvl; omega
theorem lenW_none {ws : List Nat} {s : Nat} (h2 : ws.length ≤ 16000) (h : s ∉ syms ws) : lenW ws s = 0 := by
 unfold lenW lvl
 rw [List.countP_eq_zero]
 intro a ha
 have := levW_le h2 a ha
 have h3 : (syms ws).idxOf s = (syms ws).length := List.idxOf_eq_length h
 simp only [decide_eq_true_eq]; omega
def units (L : List Nat) (n len : Nat) : Nat := ((List.range n).map fun i => 2 ^ (len - lvl L i)).sum
theorem sum_range_succ (f : Nat → Nat) (n : Nat) : ((List.range (n + 1)).map f).sum = ((List.range n).map f).sum + f n := by
 rw [List.range_succ, List.map_append, List.sum_append]; simp
theorem sum_add (f g : Nat → Nat) (n : Nat) : ((List.range n).map fun i => f i + g i).sum = ((List.range n).map f).sum + ((List.range n).map g).sum := by
 induction n with
 | zero => rfl
 | succ n ih => rw [sum_range_succ, sum_range_succ, sum_range_succ, ih]; omega
theorem sum_congr {f g : Nat → Nat} {n : Nat} (h : ∀ i, i < n → f i = g i) : ((List.range n).map f).sum = ((List.range n).map g).sum := by
 congr 1
 exact List.map_congr_left fun i hi => h i (List.mem_range.1 hi)
theorem sum_below (a c : Nat) : ∀ n, ((List.range n).map fun i => if i < a then c else 0).sum = min a n * c
 | 0 => by simp
 | n + 1 => by
  rw [sum_range_succ, sum_below a c n]
  by_cases h : n < a
  ·rw [if_pos h, Nat.min_eq_right (by omega), Nat.min_eq_right (by omega), Nat.add_mul, Nat.one_mul]
  ·rw [if_neg h, Nat.min_eq_left (by omega), Nat.min_eq_left (by omega)]; rfl
theorem lvl_le (L : List Nat) (i : Nat) : lvl L i ≤ L.length := List.countP_le_length
theorem lvl_cons (a : Nat) (L : List Nat) (i : Nat) : lvl (a :: L) i = lvl L i + if i < a then 1 else 0 := by
 unfold lvl
 rw [List.countP_cons]; simp
theorem sum_const (c : Nat) : ∀ n, ((List.range n).map fun _ => c).sum = n * c
 | 0 => by simp
 | n + 1 => by rw [sum_range_succ (fun _ => c), sum_const c n, Nat.add_mul, Nat.one_mul]
theorem wid_units {n : Nat} : ∀ (L : List Nat), L.Pairwise (· ≥ ·) → (∀ a ∈ L, a ≤ n) → widL L + units L n L.length = n * 2 ^ L.length
 | [], _, _ => by
  simp only [widL, units, lvl, List.length_nil, List.countP_nil, Nat.sub_zero, Nat.pow_zero]
  rw [sum_const]; omega
 | a :: L, hd, hb => by
  obtain ⟨h1, h2⟩ := List.pairwise_cons.1 hd
  have ih := wid_units L h2 fun x hx => hb x (by simp [hx])
  have ha := hb a (by simp)
  have hz : ∀ i, ¬ i < a → lvl L i = 0 := fun i hi => by
   unfold lvl
   rw [List.countP_eq_zero]
   intro x hx
   have := h1 x hx
   simp only [decide_eq_true_eq]; omega
  have e : units (a :: L) n (a :: L).length + min a n * 2 ^ L.length = units L n L.length + n * 2 ^ L.length := by
   unfold units
   rw [← sum_below a (2 ^ L.length) n, ← sum_add]
   have e2 : n * 2 ^ L.length = ((List.range n).map fun _ => 2 ^ L.length).sum := (sum_const _ _).symm
   rw [e2, ← sum_add]
   refine sum_congr fun i _ => ?_
   have hle := lvl_le L i
   rw [lvl_cons, List.length_cons]
   by_cases hi : i < a
   ·rw [if_pos hi, if_pos hi, show L.length + 1 - (lvl L i + 1) = L.length - lvl L i by omega]
   ·rw [if_neg hi, if_neg hi, hz i hi, Nat.add_zero, Nat.sub_zero, Nat.sub_zero, Nat.pow_succ]; omega
  rw [Nat.min_eq_left ha] at e
  rw [widL, List.length_cons, Nat.pow_succ, ← Nat.mul_assoc]
  rw [List.length_cons] at e
  omega
theorem units_full {ws : List Nat} (h : 2 ≤ (syms ws).length) (h2 : ws.length ≤ 16000) : units (levW ws) (syms ws).length 15 = 32768 := by
 have hw := wid_units (levW ws) (levW_desc h2) (levW_le h2)
 have hl : (levW ws).length = 15 := by rw [levW_two h, lev_length]
 have hv := wid_lev (sws_asc ws) 15 _ (rowW_len h h2)
 rw [← levW_two h] at hv
 rw [hl] at hw
 have e : (2 * (syms ws).length - 2) * 2 ^ 15 = 2 * ((syms ws).length * 2 ^ 15) - 2 * 2 ^ 15 := by rw [Nat.sub_mul, Nat.mul_assoc]
 have : 2 * 2 ^ 15 ≤ (syms ws).length * 2 ^ 15 := Nat.mul_le_mul_right _ h
 omega
theorem sum_ge (f : Nat → Nat) {n i : Nat} (hi : i < n) : f i ≤ ((List.range n).map f).sum := by
 induction n with
 | zero => omega
 | succ n ih =>
  rw [sum_range_succ]
  rcases Nat.lt_or_ge i n with h | h
  ·have := ih h; omega
  ·obtain rfl : i = n := by omega
   omega
theorem sum_ge2 (f : Nat → Nat) {n i j : Nat} (hij : i < j) (hj : j < n) : f i + f j ≤ ((List.range n).map f).sum := by
 induction n with
 | zero => omega
 | succ n ih =>
  rw [sum_range_succ]
  rcases Nat.lt_or_ge j n with h | h
  ·have := ih h; omega
  ·obtain rfl : j = n := by omega
   have := sum_ge f hij; omega
theorem lvl_pos {ws : List Nat} (h2 : ws.length ≤ 16000) {i : Nat} (hi : i < (syms ws).length) : 1 ≤ lvl (levW ws) i := by
 rcases Nat.lt_or_ge (syms ws).length 2 with h | h
 ·unfold levW
  match hn : (syms ws).length, h with
  | 0, _ => omega
  | 1, _ =>
   obtain rfl : i = 0 := by omega
   simp [lvl]
 ·have hu := units_full h h2
  refine Classical.byContradiction fun hno => ?_
  have h0 : lvl (levW ws) i = 0 := by omega
  obtain ⟨j, hj, hij⟩ : ∃ j, j < (syms ws).length ∧ j ≠ i := by
   rcases Nat.eq_zero_or_pos i with h3 | h3
   ·exact ⟨1, by omega, by omega⟩
   ·exact ⟨0, by omega, by omega⟩
  have hp : 0 < 2 ^ (15 - lvl (levW ws) j) := Nat.pow_pos (by omega)
  have hs : 2 ^ (15 - lvl (levW ws) i) + 2 ^ (15 - lvl (levW ws) j) ≤ units (levW ws) (syms ws).length 15 := by
   unfold units
   rcases Nat.lt_or_ge i j with h4 | h4
   ·exact sum_ge2 (fun i => 2 ^ (15 - lvl (levW ws) i)) h4 hj
   ·have := sum_ge2 (fun i => 2 ^ (15 - lvl (levW ws) i)) (show j < i by omega) hi
    omega
  rw [h0] at hs
  omega
theorem lenW_pos {ws : List Nat} (h2 : ws.length ≤ 16000) {s : Nat} (h : s ∈ syms ws) : 1 ≤ lenW ws s := lvl_pos h2 (List.idxOf_lt_length_of_mem h)
theorem sum_syms {ws : List Nat} (f : Nat → Nat) (hf : ∀ s, s ∉ syms ws → f s = 0) : ((List.range ws.length).map f).sum = ((List.range (syms ws).length).map fun i => f ((syms ws).getD i 0)).sum := by
 have e1 : ((List.range ws.length).map f).sum = ((flt ws).map f).sum := by
  have key : ∀ l : List Nat, (∀ s ∈ l, s < ws.length) → (l.map f).sum = ((l.filter fun s => decide (0 < wkey ws s)).map f).sum := by
   intro l
   induction l with
   | nil => intro _; rfl
   | cons x l ih =>
    intro hl
    have ih := ih fun s hs => hl s (by simp [hs])
    by_cases hx : 0 < wkey ws x
    ·rw [List.filter_cons_of_pos (by simpa using hx), List.map_cons, List.map_cons, List.sum_cons, List.sum_cons, ih]
    ·rw [List.filter_cons_of_neg (by simpa using hx), List.map_cons, List.sum_cons, ih, hf x (fun h => hx (mem_syms.1 h).2), Nat.zero_add]
  exact key _ fun s hs => List.mem_range.1 hs
 rw [e1, ← ((syms_spec ws).1.map f).sum_nat]
 congr 1
 refine List.ext_getElem (by simp) fun i h1 h2 => ?_
 have hi : i < (syms ws).length := by simpa using h1
 rw [List.getElem_map, List.getElem_map, List.getElem_range, getD_eq hi]
theorem idxOf_getD {ws : List Nat} {i : Nat} (hi : i < (syms ws).length) : (syms ws).idxOf ((syms ws).getD i 0) = i := by
 rw [getD_eq hi]
 exact (syms_nodup ws).idxOf_getElem _ hi
theorem kraft_map (f : Nat → Nat) (n : Nat) : kraft ((List.range n).map f) = ((List.range n).map fun s => unitK (f s)).sum := by
 unfold kraft; rw [List.map_map]; rfl
theorem lensW_kraft {ws : List Nat} (h : 2 ≤ (syms ws).length) (h2 : ws.length ≤ 16000) : kraft (lensW ws) = 32768 := by
 rw [← units_full h h2]
 unfold lensW units
 rw [kraft_map, sum_syms (fun s => unitK (lenW ws s)) fun s hs => by rw [lenW_none h2 hs]; rfl]
 refine sum_congr fun i hi => ?_
 have hp := lvl_pos h2 hi
 show unitK (lvl (levW ws) ((syms ws).idxOf ((syms ws).getD i 0))) = _
 rw [idxOf_getD hi]
 unfold unitK
 rw [if_neg (by omega)]
theorem lensW_one {ws : List Nat} (h : (syms ws).length = 1) (h2 : ws.length ≤ 16000) : (lensW ws).sum = 1 := by
 unfold lensW
 rw [sum_syms (lenW ws) fun s hs => lenW_none h2 hs, h]
 show lenW ws ((syms ws).getD 0 0) + 0 = 1
 unfold lenW
 rw [idxOf_getD (by omega)]
 unfold levW
 rw [h]; rfl
theorem lensW_le (ws : List Nat) : ∀ x ∈ lensW ws, x ≤ 15 := by
 intro x hx
 obtain ⟨s, _, rfl⟩ := List.mem_map.1 hx
 exact lenW_le ws s
theorem lensW_get {ws : List Nat} {s : Nat} (h : s < ws.length) : (lensW ws).getD s 0 = lenW ws s := by simp [lensW, List.getD, h]
end Go.Bn
end
