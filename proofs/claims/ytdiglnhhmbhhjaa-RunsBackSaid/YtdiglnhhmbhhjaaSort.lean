/- The contracts of the stable sort of Go's library, for numbers by a key. -/
import Derived.Test.YtdiglnhhmbhhjaaCanon
import Derived.Test.YtdiglnhhmbhhjaaPSort
set_option linter.unusedVariables false
set_option linter.unusedSimpArgs false
set_option maxHeartbeats 4000000
set_option maxRecDepth 20000
namespace Go.Bn
open Go Proofs

/-- A row of numbers. -/
@[reducible] def rowN (g n c : Nat) (l : List Nat) : Res := Bn.row 3 1 (.slice (some ⟨g, 0, none⟩) n c) (l.map nV)
theorem St.natAt {B g n c i x : Nat} {l : List Nat} {F : List Res} {hb h0 : Heap} (st : St B hb h0 (rowN g n c l :: F)) (h : l[i]? = some x) : cellH h0 ⟨g, 0 + i, none⟩ = some (nV x) := by
  obtain ⟨A, n', c', he, _, _, _, hrd⟩ := st.row 0 rfl
  cases he
  have hi := (List.getElem?_eq_some_iff.1 h).1
  obtain ⟨b, o, he2, hc⟩ := hrd.at_ (by rw [List.length_map]; omega)
  cases he2
  exact hc i (nV x) (by rw [List.getElem?_map, h]; rfl)
theorem St.natLen {B g n c : Nat} {l : List Nat} {F : List Res} {hb h0 : Heap} (st : St B hb h0 (rowN g n c l :: F)) : l.length = n := by
  obtain ⟨A, n', c', he, hl, _⟩ := st.row 0 rfl
  cases he
  simpa using hl
theorem swap_map {A M C : List Nat} {p q i j : Nat} (hi : i = A.length) (hj : j = A.length + 1 + M.length) : (((A ++ p :: (M ++ q :: C)).map nV).set i (nV q)).set j (nV p) = (A ++ q :: (M ++ p :: C)).map nV := by
  rw [← List.map_set, ← List.map_set, set_mid _ _ _ _ hi, set_mid2 _ _ _ _ _ _ hj]
theorem swap_map' {A M C : List Nat} {p q i j : Nat} (hi : i = A.length) (hj : j = A.length + 1 + M.length) : (((A ++ p :: (M ++ q :: C)).map nV).set j (nV p)).set i (nV q) = (A ++ q :: (M ++ p :: C)).map nV := by
  rw [← List.map_set, ← List.map_set, set_mid2 _ _ _ _ _ _ hj, set_mid _ _ _ _ hi]

theorem swapRange_spec {B g n c a b s : Nat} {X P M Q Y : List Nat} {fn : Value} {F : List Res} {h0 : Heap} (st0 : St B h0 h0 (rowN g n c (X ++ (P ++ (M ++ (Q ++ Y)))) :: F)) (ha : X.length = a) (hb : X.length + P.length + M.length = b) (hp : P.length = s) (hq : Q.length = s) (hn : n ≤ 1099511627776) :
    Ret Try.prog 144 [.slice (some ⟨g, 0, none⟩) n c, nV a, nV b, nV s, fn] h0 fun _ h' => St B h0 h' (rowN g n c (X ++ (Q ++ (M ++ (P ++ Y)))) :: F) := by
  have hln := st0.natLen
  simp only [List.length_append] at hln
  refine ret_of_X Try.func144 rfl rfl fun w0 hw0 => ?_
  simp only [argE, Nat.zero_add, Nat.reduceAdd]
  refine X_seq ?_
  refine X_reg ?_
  refine XR_a (op_assign rfl) rfl rfl ?_
  refine XR_nil ?_
  refine X_block ?_
  refine X_loop (fun i => s - i) (fun i => [(0, .slice (some ⟨g, 0, none⟩) n c), (1, nV a), (2, nV b), (3, nV s), (10, nV i)])
    (fun (i : Nat) hp => St B h0 hp (rowN g n c (X ++ ((Q.take i ++ P.drop i) ++ (M ++ ((P.take i ++ Q.drop i) ++ Y)))) :: F) ∧ i ≤ s)
    0 (.cons rfl (.cons rfl (.cons rfl (.cons rfl (.cons rfl (.nil _)))))) ⟨by simpa using st0, by omega⟩ ?_
  rintro i hp ⟨st, hi⟩
  refine X_seq ?_
  refine X_seq ?_
  refine X_reg ?_
  refine XR_a (op_move rfl) rfl rfl ?_
  refine XR_a (op_move rfl) rfl rfl ?_
  refine XR_a (op_lss rfl rfl) rfl rfl ?_
  refine XR_nil ?_
  refine X_if rfl (fun h => ?_) (fun h => ?_)
  · have hiP : i < P.length := by omega
    have hiQ : i < Q.length := by omega
    have e1 : X ++ ((Q.take i ++ P.drop i) ++ (M ++ ((P.take i ++ Q.drop i) ++ Y))) = (X ++ Q.take i) ++ P.getD i 0 :: ((P.drop (i + 1) ++ (M ++ P.take i)) ++ Q.getD i 0 :: (Q.drop (i + 1) ++ Y)) := by
      rw [drop_cons hiP, drop_cons hiQ]; simp
    have e2 : X ++ ((Q.take (i + 1) ++ P.drop (i + 1)) ++ (M ++ ((P.take (i + 1) ++ Q.drop (i + 1)) ++ Y))) = (X ++ Q.take i) ++ Q.getD i 0 :: ((P.drop (i + 1) ++ (M ++ P.take i)) ++ P.getD i 0 :: (Q.drop (i + 1) ++ Y)) := by
      rw [take_snoc hiP, take_snoc hiQ]; simp
    have hia : a + i = (X ++ Q.take i).length := by rw [List.length_append, List.length_take]; omega
    have hib : b + i = (X ++ Q.take i).length + 1 + (P.drop (i + 1) ++ (M ++ P.take i)).length := by simp only [List.length_append, List.length_take, List.length_drop]; omega
    rw [e1] at st
    refine X_skip ?_
    refine X_seq ?_
    refine X_block ?_
    refine X_draw (butAt [(7, .pure)]) (by kernel_rfl) (by kernel_rfl) ?_
    refine XR_a (op_move rfl) rfl rfl ?_
    refine XR_a (op_move rfl) rfl rfl ?_
    refine XR_a (op_move rfl) rfl rfl ?_
    first | refine XR_a (op_addN rfl rfl (by simp only [inK]; omega)) rfl rfl ?_ | refine XR_a (op_addI rfl rfl (by simp only [inK]; omega)) rfl rfl ?_ | refine XR_a (op_add rfl rfl) rfl rfl ?_
    refine XR_a (op_move rfl) rfl rfl ?_
    refine XR_a (op_move rfl) rfl rfl ?_
    refine XR_a (op_move rfl) rfl rfl ?_
    first | refine XR_a (op_addN rfl rfl (by simp only [inK]; omega)) rfl rfl ?_ | refine XR_a (op_addI rfl rfl (by simp only [inK]; omega)) rfl rfl ?_ | refine XR_a (op_add rfl rfl) rfl rfl ?_
    refine XR_a (op_move rfl) rfl rfl ?_
    refine XR_a (op_move rfl) rfl rfl ?_
    refine XR_a (op_move rfl) rfl rfl ?_
    first | refine XR_a (op_addN rfl rfl (by simp only [inK]; omega)) rfl rfl ?_ | refine XR_a (op_addI rfl rfl (by simp only [inK]; omega)) rfl rfl ?_ | refine XR_a (op_add rfl rfl) rfl rfl ?_
    first | refine XR_a (op_index1 rfl rfl rfl (by omega)) rfl rfl ?_ | refine XR_a (op_index rfl rfl rfl (by omega)) rfl rfl ?_
    refine XR_a (op_ld (st.natAt (get_mid2 _ _ _ _ _ hib)) rfl rfl rfl) rfl rfl ?_
    refine XR_a (op_move rfl) rfl rfl ?_
    refine XR_a (op_move rfl) rfl rfl ?_
    refine XR_a (op_move rfl) rfl rfl ?_
    first | refine XR_a (op_addN rfl rfl (by simp only [inK]; omega)) rfl rfl ?_ | refine XR_a (op_addI rfl rfl (by simp only [inK]; omega)) rfl rfl ?_ | refine XR_a (op_add rfl rfl) rfl rfl ?_
    first | refine XR_a (op_index1 rfl rfl rfl (by omega)) rfl rfl ?_ | refine XR_a (op_index rfl rfl rfl (by omega)) rfl rfl ?_
    refine XR_a (op_ld (st.natAt (get_mid _ _ _ hia)) rfl rfl rfl) rfl rfl ?_
    first | refine XR_a (op_index1 rfl rfl rfl (by omega)) rfl rfl ?_ | refine XR_a (op_index rfl rfl rfl (by omega)) rfl rfl ?_
    refine XR_wn (opl_store_row (i := a + i) st 0 rfl rfl rfl (by simp only [List.length_map, List.length_append, List.length_cons, List.length_take, List.length_drop]; omega) rfl rfl) rfl rfl fun _ hp st => ?_
    simp only [List.set_cons_zero] at st
    first | refine XR_a (op_index1 rfl rfl rfl (by omega)) rfl rfl ?_ | refine XR_a (op_index rfl rfl rfl (by omega)) rfl rfl ?_
    refine XR_wn (opl_store_row (i := b + i) st 0 rfl rfl rfl (by simp only [List.length_set, List.length_map, List.length_append, List.length_cons, List.length_take, List.length_drop]; omega) rfl rfl) rfl rfl fun _ hp st => ?_
    simp only [List.set_cons_zero] at st
    rw [swap_map hia hib, ← e2] at st
    refine XR_nil ?_
    refine X_blk ?_
    refine X_reg ?_
    refine XR_a (op_move rfl) rfl rfl ?_
    first | refine XR_a (op_addN (n := 1) rfl rfl (by simp only [inK]; omega)) rfl rfl ?_ | refine XR_a (op_addI rfl rfl (by simp only [inK]; omega)) rfl rfl ?_ | refine XR_a (op_add rfl rfl) rfl rfl ?_
    refine XR_a (op_assign rfl) rfl rfl ?_
    refine XR_nil ?_
    exact X_again (i + 1) (.cons rfl (.cons rfl (.cons rfl (.cons rfl (.cons rfl (.nil _)))))) ⟨st, by omega⟩ (by omega)
  · refine X_exit rfl ?_
    refine X_end .nil ?_
    obtain rfl : i = s := by omega
    rw [List.take_of_length_le (by omega), List.take_of_length_le (by omega), List.drop_of_length_le (by omega), List.drop_of_length_le (by omega), List.append_nil, List.append_nil] at st
    exact st

theorem rotate_spec {B g n c a m b : Nat} {X U V Y : List Nat} {fn : Value} {F : List Res} {h0 : Heap} (st0 : St B h0 h0 (rowN g n c (X ++ (U ++ (V ++ Y))) :: F)) (ha : X.length = a) (hm : X.length + U.length = m) (hb : m + V.length = b) (hu : 1 ≤ U.length) (hv : 1 ≤ V.length) (hn : n ≤ 1099511627776) :
    Ret Try.prog 143 [.slice (some ⟨g, 0, none⟩) n c, nV a, nV m, nV b, fn] h0 fun _ h' => St B h0 h' (rowN g n c (X ++ (V ++ (U ++ Y))) :: F) := by
  have hln := st0.natLen
  simp only [List.length_append] at hln
  refine ret_of_X Try.func143 rfl rfl fun w0 hw0 => ?_
  simp only [argE, Nat.zero_add, Nat.reduceAdd]
  refine X_seq ?_
  refine X_reg ?_
  refine XR_a (op_move rfl) rfl rfl ?_
  refine XR_a (op_move rfl) rfl rfl ?_
  first | refine XR_a (op_subN rfl rfl (by omega) (by simp only [inK]; omega)) rfl rfl ?_ | refine XR_a (op_subI rfl rfl (by simp only [inK]; omega)) rfl rfl ?_ | refine XR_a (op_sub rfl rfl) rfl rfl ?_
  refine XR_a (op_assign rfl) rfl rfl ?_
  refine XR_nil ?_
  refine X_seq ?_
  refine X_reg ?_
  refine XR_a (op_move rfl) rfl rfl ?_
  refine XR_a (op_move rfl) rfl rfl ?_
  first | refine XR_a (op_subN rfl rfl (by omega) (by simp only [inK]; omega)) rfl rfl ?_ | refine XR_a (op_subI rfl rfl (by simp only [inK]; omega)) rfl rfl ?_ | refine XR_a (op_sub rfl rfl) rfl rfl ?_
  refine XR_a (op_assign rfl) rfl rfl ?_
  refine XR_nil ?_
  refine X_seq ?_
  refine X_block ?_
  refine X_loop (fun s => s.2.1.length + s.2.2.1.length) (fun s => [(0, .slice (some ⟨g, 0, none⟩) n c), (2, nV m), (4, fn), (10, nV s.2.1.length), (11, nV s.2.2.1.length)])
    (fun (s : List Nat × List Nat × List Nat × List Nat) hp => St B h0 hp (rowN g n c (s.1 ++ (s.2.1 ++ (s.2.2.1 ++ s.2.2.2))) :: F) ∧ s.1.length + s.2.1.length = m ∧ 1 ≤ s.2.1.length ∧ 1 ≤ s.2.2.1.length ∧ m + s.2.2.1.length ≤ n ∧ s.1 ++ (s.2.2.1 ++ (s.2.1 ++ s.2.2.2)) = X ++ (V ++ (U ++ Y)))
    (X, U, V, Y) (.cons rfl (.cons rfl (.cons rfl (.cons (by simp only; rw [show m - a = U.length by omega]; rfl) (.cons (by simp only; rw [show b - m = V.length by omega]; rfl) (.nil _)))))) ⟨st0, hm, hu, hv, by simp only; omega, rfl⟩ ?_
  rintro ⟨x, u, v, y⟩ hp ⟨st, hxm, hu1, hv1, hvn, hT⟩
  simp only at st hxm hu1 hv1 hvn hT ⊢
  refine X_seq ?_
  refine X_seq ?_
  refine X_reg ?_
  refine XR_a (op_move rfl) rfl rfl ?_
  refine XR_a (op_move rfl) rfl rfl ?_
  refine XR_a (op_neq rfl rfl) rfl rfl ?_
  refine XR_nil ?_
  refine X_if rfl (fun h => ?_) (fun h => ?_)
  · refine X_skip ?_
    refine X_block ?_
    refine X_seq ?_
    refine X_reg ?_
    refine XR_a (op_move rfl) rfl rfl ?_
    refine XR_a (op_move rfl) rfl rfl ?_
    refine XR_a (op_gtr rfl rfl) rfl rfl ?_
    refine XR_nil ?_
    refine X_if rfl (fun h => ?_) (fun h => ?_)
    · refine X_seq ?_
      refine X_reg ?_
      refine XR_a (op_move rfl) rfl rfl ?_
      refine XR_a (op_move rfl) rfl rfl ?_
      refine XR_a (op_move rfl) rfl rfl ?_
      first | refine XR_a (op_subN rfl rfl (by omega) (by simp only [inK]; omega)) rfl rfl ?_ | refine XR_a (op_subI rfl rfl (by simp only [inK]; omega)) rfl rfl ?_ | refine XR_a (op_sub rfl rfl) rfl rfl ?_
      refine XR_a (op_move rfl) rfl rfl ?_
      refine XR_a (op_move rfl) rfl rfl ?_
      refine XR_a (op_move rfl) rfl rfl ?_
      refine XR_wa (opl_call (swapRange_spec (X := x) (P := u.take v.length) (M := u.drop v.length) (Q := v) (Y := y) (a := m - u.length) (b := m) (s := v.length) (by have h1 := st.here; rw [← List.append_assoc (u.take _), List.take_append_drop]; exact h1) (by omega) (by rw [List.length_take, List.length_drop]; omega) (by rw [List.length_take]; omega) rfl (by omega)) rfl (by kernel_rfl)) rfl rfl rfl ?_
      rintro _ hp st2
      replace st := st.trans st2
      refine XR_nil ?_
      refine X_reg ?_
      refine XR_a (op_move rfl) rfl rfl ?_
      refine XR_a (op_move rfl) rfl rfl ?_
      first | refine XR_a (op_subN rfl rfl (by omega) (by simp only [inK]; omega)) rfl rfl ?_ | refine XR_a (op_subI rfl rfl (by simp only [inK]; omega)) rfl rfl ?_ | refine XR_a (op_sub rfl rfl) rfl rfl ?_
      refine XR_a (op_assign rfl) rfl rfl ?_
      refine XR_nil ?_
      refine X_blk ?_
      refine X_again (x ++ v, u.drop v.length, u.take v.length, y) (.cons rfl (.cons rfl (.cons rfl (.cons (by simp only [List.length_drop]; rfl) (.cons (by simp only [List.length_take]; rw [Nat.min_eq_left (by omega)]; rfl) (.nil _)))))) ⟨by simpa using st, ?_, ?_, ?_, ?_, ?_⟩ ?_
      · simp only [List.length_append, List.length_drop]; omega
      · simp only [List.length_drop]; omega
      · simp only [List.length_take]; omega
      · simp only [List.length_take]; omega
      · simp only
        rw [← List.append_assoc (u.take _), List.take_append_drop, List.append_assoc]; exact hT
      · simp only [List.length_take, List.length_drop]; omega
    · refine X_seq ?_
      refine X_reg ?_
      refine XR_a (op_move rfl) rfl rfl ?_
      refine XR_a (op_move rfl) rfl rfl ?_
      refine XR_a (op_move rfl) rfl rfl ?_
      first | refine XR_a (op_subN rfl rfl (by omega) (by simp only [inK]; omega)) rfl rfl ?_ | refine XR_a (op_subI rfl rfl (by simp only [inK]; omega)) rfl rfl ?_ | refine XR_a (op_sub rfl rfl) rfl rfl ?_
      refine XR_a (op_move rfl) rfl rfl ?_
      refine XR_a (op_move rfl) rfl rfl ?_
      first | refine XR_a (op_addN rfl rfl (by simp only [inK]; omega)) rfl rfl ?_ | refine XR_a (op_addI rfl rfl (by simp only [inK]; omega)) rfl rfl ?_ | refine XR_a (op_add rfl rfl) rfl rfl ?_
      refine XR_a (op_move rfl) rfl rfl ?_
      first | refine XR_a (op_subN rfl rfl (by omega) (by simp only [inK]; omega)) rfl rfl ?_ | refine XR_a (op_subI rfl rfl (by simp only [inK]; omega)) rfl rfl ?_ | refine XR_a (op_sub rfl rfl) rfl rfl ?_
      refine XR_a (op_move rfl) rfl rfl ?_
      refine XR_a (op_move rfl) rfl rfl ?_
      refine XR_wa (opl_call (swapRange_spec (X := x) (P := u) (M := v.take (v.length - u.length)) (Q := v.drop (v.length - u.length)) (Y := y) (a := m - u.length) (b := m + v.length - u.length) (s := u.length) (by have h1 := st.here; rw [← List.append_assoc (v.take _), List.take_append_drop]; exact h1) (by omega) (by rw [List.length_take]; omega) rfl (by rw [List.length_drop]; omega) (by omega)) rfl (by kernel_rfl)) rfl rfl rfl ?_
      rintro _ hp st2
      replace st := st.trans st2
      refine XR_nil ?_
      refine X_reg ?_
      refine XR_a (op_move rfl) rfl rfl ?_
      refine XR_a (op_move rfl) rfl rfl ?_
      first | refine XR_a (op_subN rfl rfl (by omega) (by simp only [inK]; omega)) rfl rfl ?_ | refine XR_a (op_subI rfl rfl (by simp only [inK]; omega)) rfl rfl ?_ | refine XR_a (op_sub rfl rfl) rfl rfl ?_
      refine XR_a (op_assign rfl) rfl rfl ?_
      refine XR_nil ?_
      refine X_blk ?_
      refine X_again (x, v.drop (v.length - u.length), v.take (v.length - u.length), u ++ y) (.cons rfl (.cons rfl (.cons rfl (.cons (by simp only [List.length_drop]; rw [show v.length - (v.length - u.length) = u.length by omega]; rfl) (.cons (by simp only [List.length_take]; rw [Nat.min_eq_left (by omega)]; rfl) (.nil _)))))) ⟨st, ?_, ?_, ?_, ?_, ?_⟩ ?_
      · simp only [List.length_drop]; omega
      · simp only [List.length_drop]; omega
      · simp only [List.length_take]; omega
      · simp only [List.length_take]; omega
      · simp only
        rw [← List.append_assoc (v.take _), List.take_append_drop]; exact hT
      · simp only [List.length_take, List.length_drop]; omega
  · refine X_exit rfl ?_
    refine X_reg ?_
    refine XR_a (op_move rfl) rfl rfl ?_
    refine XR_a (op_move rfl) rfl rfl ?_
    refine XR_a (op_move rfl) rfl rfl ?_
    first | refine XR_a (op_subN rfl rfl (by omega) (by simp only [inK]; omega)) rfl rfl ?_ | refine XR_a (op_subI rfl rfl (by simp only [inK]; omega)) rfl rfl ?_ | refine XR_a (op_sub rfl rfl) rfl rfl ?_
    refine XR_a (op_move rfl) rfl rfl ?_
    refine XR_a (op_move rfl) rfl rfl ?_
    refine XR_a (op_move rfl) rfl rfl ?_
    refine XR_wa (opl_call (swapRange_spec (X := x) (P := u) (M := []) (Q := v) (Y := y) (a := m - u.length) (b := m) (s := u.length) st.here (by omega) (by simp; omega) rfl (by omega) (by omega)) rfl (by kernel_rfl)) rfl rfl rfl ?_
    rintro _ hp st2
    replace st := st.trans st2
    refine XR_nil ?_
    refine X_end .nil ?_
    rw [← hT]; exact st

/-- What a sort asks of its order: it goes by a key, and turns nothing. -/
def CmpOK (B : Nat) (h0 : Heap) (F : List Res) (k : Nat) (caps : Array Value) (key : Nat → Nat) (good : Nat → Prop) : Prop :=
  callOk Try.prog k = true ∧ ∀ (r : Res) (h' : Heap), St B h0 h' (r :: F) → ∀ x y, good x → good y → Ret Try.prog k (nV x :: nV y :: caps.toList) h' fun v h'' => v = .int .i64 (cmpI (key x) (key y)) ∧ h' = h''
theorem CmpOK.here {B k : Nat} {h0 hp : Heap} {r : Res} {F : List Res} {caps : Array Value} {key : Nat → Nat} {good : Nat → Prop} (h : CmpOK B h0 F k caps key good) (st : St B h0 hp (r :: F)) : CmpOK B hp F k caps key good :=
  ⟨h.1, fun r' h' s => h.2 r' h' (st.trans s)⟩

theorem insertion_spec {B g n c a b k : Nat} {X M Y : List Nat} {caps : Array Value} {key : Nat → Nat} {good : Nat → Prop} {F : List Res} {h0 : Heap} (st0 : St B h0 h0 (rowN g n c (X ++ (M ++ Y)) :: F)) (hcmp : CmpOK B h0 F k caps key good)
    (ha : X.length = a) (hb : X.length + M.length = b) (hM : M.Pairwise (· < ·)) (hg : ∀ x ∈ M, good x) (hn : n ≤ 1099511627776) :
    Ret Try.prog 139 [.slice (some ⟨g, 0, none⟩) n c, nV a, nV b, .func (.func k) #[] caps] h0 fun _ h' => ∃ M', M'.Perm M ∧ RkS key M' ∧ St B h0 h' (rowN g n c (X ++ (M' ++ Y)) :: F) := by
  have hln := st0.natLen
  simp only [List.length_append] at hln
  refine ret_of_X Try.func139 rfl rfl fun w0 hw0 => ?_
  simp only [argE, Nat.zero_add, Nat.reduceAdd]
  refine X_seq ?_
  refine X_reg ?_
  refine XR_a (op_move rfl) rfl rfl ?_
  first | refine XR_a (op_addN (n := 1) rfl rfl (by simp only [inK]; omega)) rfl rfl ?_ | refine XR_a (op_addI rfl rfl (by simp only [inK]; omega)) rfl rfl ?_ | refine XR_a (op_add rfl rfl) rfl rfl ?_
  refine XR_a (op_assign rfl) rfl rfl ?_
  refine XR_nil ?_
  refine X_block ?_
  refine X_loop (fun s => M.length - s.1) (fun s => [(0, .slice (some ⟨g, 0, none⟩) n c), (1, nV a), (2, nV b), (3, .func (.func k) #[] caps), (8, nV (a + s.1))])
    (fun (s : Nat × List Nat) hp => 1 ≤ s.1 ∧ s.2.Perm (M.take s.1) ∧ RkS key s.2 ∧ St B h0 hp (rowN g n c (X ++ (s.2 ++ (M.drop s.1 ++ Y))) :: F))
    (1, M.take 1) (.cons rfl (.cons rfl (.cons rfl (.cons rfl (.cons rfl (.nil _)))))) ⟨Nat.le_refl _, List.Perm.refl _, ?_, by simp only; rw [← List.append_assoc (M.take _), List.take_append_drop]; exact st0⟩ ?_
  · cases M with
    | nil => simp
    | cons x M => simp
  rintro ⟨i, S⟩ hp ⟨hi1, hS, hSs, st⟩
  simp only at hi1 hS hSs st ⊢
  refine X_seq ?_
  refine X_seq ?_
  refine X_reg ?_
  refine XR_a (op_move rfl) rfl rfl ?_
  refine XR_a (op_move rfl) rfl rfl ?_
  refine XR_a (op_lss rfl rfl) rfl rfl ?_
  refine XR_nil ?_
  refine X_if rfl (fun h => ?_) (fun h => ?_)
  · refine X_skip ?_
    refine X_seq ?_
    refine X_block ?_
    refine X_seq ?_
    refine X_reg ?_
    refine XR_a (op_move rfl) rfl rfl ?_
    refine XR_a (op_assign rfl) rfl rfl ?_
    refine XR_nil ?_
    refine X_block ?_
    have hiM : i < M.length := by omega
    have hSl : S.length = i := by rw [hS.length_eq, List.length_take]; omega
    have htk := take_snoc hiM
    rw [drop_cons hiM] at st
    have hgx := hg _ (getD_mem hiM)
    have hpre : PreM key S [M.getD i 0] := by
      refine ⟨hSs, by simp, fun u hu v hv _ => ?_⟩
      obtain rfl : v = M.getD i 0 := by simpa using hv
      rw [hS.mem_iff] at hu
      obtain ⟨j, hj, hjl, rfl⟩ := mem_take_get hu
      rw [getD_eq hjl, getD_eq hiM]
      exact List.pairwise_iff_getElem.1 hM j i hjl hiM hj
    have hgS : ∀ p, p < S.length → good (S.getD p 0) := fun p hp => hg _ (List.mem_of_mem_take (hS.mem_iff.1 (getD_mem hp)))
    obtain ⟨x, hx⟩ : ∃ x, M.getD i 0 = x := ⟨_, rfl⟩
    rw [hx] at st hgx hpre htk
    refine X_loop (fun p => p) (fun p => [(0, .slice (some ⟨g, 0, none⟩) n c), (1, nV a), (2, nV b), (3, .func (.func k) #[] caps), (8, nV (a + i)), (9, nV (a + p))])
      (fun (p : Nat) hp => p ≤ S.length ∧ (S.length ≤ p ∨ key x < key (S.getD p 0)) ∧ St B h0 hp (rowN g n c (X ++ (S.take p ++ x :: (S.drop p ++ (M.drop (i + 1) ++ Y)))) :: F))
      S.length (.cons rfl (.cons rfl (.cons rfl (.cons rfl (.cons rfl (.cons (by rw [hSl]; rfl) (.nil _))))))) ⟨Nat.le_refl _, .inl (Nat.le_refl _), by rw [List.take_of_length_le (Nat.le_refl _), List.drop_of_length_le (Nat.le_refl _)]; exact st⟩ ?_
    clear st
    rintro p hp ⟨hpS, hpk, st⟩
    have hfin : (p = 0 ∨ key (S.getD (p - 1) 0) ≤ key x) → 1 ≤ i + 1 ∧ (S.take p ++ x :: S.drop p).Perm (M.take (i + 1)) ∧ RkS key (S.take p ++ x :: S.drop p) ∧ St B h0 hp (rowN g n c (X ++ ((S.take p ++ x :: S.drop p) ++ (M.drop (i + 1) ++ Y))) :: F) := fun h1 => by
      obtain ⟨m1, m2⟩ := mrg_right hpre hpS h1 hpk
      refine ⟨by omega, m1.trans ?_, m2, by simpa using st⟩
      rw [htk]; exact hS.append_right _
    refine X_seq ?_
    refine X_seq ?_
    refine X_draw byKind (by kernel_rfl) (by kernel_rfl) ?_
    refine XR_a (op_move rfl) rfl rfl ?_
    refine XR_a (op_move rfl) rfl rfl ?_
    refine XR_a (op_gtr rfl rfl) rfl rfl ?_
    refine XR_a (op_move rfl) rfl rfl ?_
    refine XR_if 21 rfl (fun h => ?_) (fun h => ?_)
    · have hp1 : p - 1 < S.length := by omega
      have e1 : X ++ (S.take p ++ x :: (S.drop p ++ (M.drop (i + 1) ++ Y))) = (X ++ S.take (p - 1)) ++ S.getD (p - 1) 0 :: ([] ++ x :: (S.drop p ++ (M.drop (i + 1) ++ Y))) := by
        have := take_snoc hp1
        rw [show p - 1 + 1 = p by omega] at this
        rw [this]; simp
      have e2 : X ++ (S.take (p - 1) ++ x :: (S.drop (p - 1) ++ (M.drop (i + 1) ++ Y))) = (X ++ S.take (p - 1)) ++ x :: ([] ++ S.getD (p - 1) 0 :: (S.drop p ++ (M.drop (i + 1) ++ Y))) := by
        have := drop_cons hp1
        rw [show p - 1 + 1 = p by omega] at this
        rw [this]; simp
      have hia : a + p - 1 = (X ++ S.take (p - 1)).length := by rw [List.length_append, List.length_take]; omega
      have hib : a + p = (X ++ S.take (p - 1)).length + 1 + ([] : List Nat).length := by rw [List.length_append, List.length_take, List.length_nil]; omega
      rw [e1] at st
      refine XR_a (op_move rfl) rfl rfl ?_
      refine XR_a (op_move rfl) rfl rfl ?_
      refine XR_a (op_move rfl) rfl rfl ?_
      first | refine XR_a (op_index1 rfl rfl rfl (by omega)) rfl rfl ?_ | refine XR_a (op_index rfl rfl rfl (by omega)) rfl rfl ?_
      refine XR_a (op_ld (st.natAt (get_mid2 _ _ _ _ _ hib)) rfl rfl rfl) rfl rfl ?_
      refine XR_a (op_move rfl) rfl rfl ?_
      refine XR_a (op_move rfl) rfl rfl ?_
      first | refine XR_a (op_subN (n := 1) rfl rfl (by omega) (by simp only [inK]; omega)) rfl rfl ?_ | refine XR_a (op_subI rfl rfl (by simp only [inK]; omega)) rfl rfl ?_ | refine XR_a (op_sub rfl rfl) rfl rfl ?_
      first | refine XR_a (op_index1 rfl rfl rfl (by omega)) rfl rfl ?_ | refine XR_a (op_index rfl rfl rfl (by omega)) rfl rfl ?_
      refine XR_a (op_ld (st.natAt (get_mid _ _ _ hia)) rfl rfl rfl) rfl rfl ?_
      refine XR_wa (opl_callV rfl (hcmp.2 _ _ st x (S.getD (p - 1) 0) hgx (hgS _ hp1)) rfl (hcmp.1)) rfl rfl rfl ?_
      rintro _ _ ⟨rfl, rfl⟩
      refine XR_a (op_lss rfl rfl) rfl rfl ?_
      refine XR_a (op_pick_t rfl rfl) rfl rfl ?_
      refine XR_nil ?_
      refine X_if rfl (fun h => ?_) (fun h => ?_)
      · refine X_skip ?_
        refine X_seq ?_
        refine X_block ?_
        refine X_draw (butAt [(4, .pure)]) (by kernel_rfl) (by kernel_rfl) ?_
        refine XR_a (op_move rfl) rfl rfl ?_
        refine XR_a (op_move rfl) rfl rfl ?_
        refine XR_a (op_move rfl) rfl rfl ?_
        refine XR_a (op_move rfl) rfl rfl ?_
        first | refine XR_a (op_subN (n := 1) rfl rfl (by omega) (by simp only [inK]; omega)) rfl rfl ?_ | refine XR_a (op_subI rfl rfl (by simp only [inK]; omega)) rfl rfl ?_ | refine XR_a (op_sub rfl rfl) rfl rfl ?_
        refine XR_a (op_move rfl) rfl rfl ?_
        refine XR_a (op_move rfl) rfl rfl ?_
        first | refine XR_a (op_subN (n := 1) rfl rfl (by omega) (by simp only [inK]; omega)) rfl rfl ?_ | refine XR_a (op_subI rfl rfl (by simp only [inK]; omega)) rfl rfl ?_ | refine XR_a (op_sub rfl rfl) rfl rfl ?_
        first | refine XR_a (op_index1 rfl rfl rfl (by omega)) rfl rfl ?_ | refine XR_a (op_index rfl rfl rfl (by omega)) rfl rfl ?_
        refine XR_a (op_ld (st.natAt (get_mid _ _ _ hia)) rfl rfl rfl) rfl rfl ?_
        refine XR_a (op_move rfl) rfl rfl ?_
        refine XR_a (op_move rfl) rfl rfl ?_
        first | refine XR_a (op_index1 rfl rfl rfl (by omega)) rfl rfl ?_ | refine XR_a (op_index rfl rfl rfl (by omega)) rfl rfl ?_
        refine XR_a (op_ld (st.natAt (get_mid2 _ _ _ _ _ hib)) rfl rfl rfl) rfl rfl ?_
        first | refine XR_a (op_index1 rfl rfl rfl (by omega)) rfl rfl ?_ | refine XR_a (op_index rfl rfl rfl (by omega)) rfl rfl ?_
        refine XR_wn (opl_store_row (i := a + p) st 0 rfl rfl rfl (by simp only [List.length_map, List.length_append, List.length_cons, List.length_take, List.length_drop, List.length_nil]; omega) rfl rfl) rfl rfl fun _ hp st => ?_
        simp only [List.set_cons_zero] at st
        first | refine XR_a (op_index1 rfl rfl rfl (by omega)) rfl rfl ?_ | refine XR_a (op_index rfl rfl rfl (by omega)) rfl rfl ?_
        refine XR_wn (opl_store_row (i := a + p - 1) st 0 rfl rfl rfl (by simp only [List.length_set, List.length_map, List.length_append, List.length_cons, List.length_take, List.length_drop, List.length_nil]; omega) rfl rfl) rfl rfl fun _ hp st => ?_
        simp only [List.set_cons_zero] at st
        rw [swap_map' hia hib, ← e2] at st
        refine XR_nil ?_
        refine X_blk ?_
        refine X_reg ?_
        refine XR_a (op_move rfl) rfl rfl ?_
        first | refine XR_a (op_subN (n := 1) rfl rfl (by omega) (by simp only [inK]; omega)) rfl rfl ?_ | refine XR_a (op_subI rfl rfl (by simp only [inK]; omega)) rfl rfl ?_ | refine XR_a (op_sub rfl rfl) rfl rfl ?_
        refine XR_a (op_assign rfl) rfl rfl ?_
        refine XR_nil ?_
        exact X_again (p - 1) (.cons rfl (.cons rfl (.cons rfl (.cons rfl (.cons rfl (.cons (by rw [show a + p - 1 = a + (p - 1) by omega]; rfl) (.nil _))))))) ⟨by omega, .inr (cmpI_neg.1 h), st⟩ (by omega)
      · refine X_exit rfl ?_
        refine X_blk ?_
        refine X_reg ?_
        refine XR_a (op_move rfl) rfl rfl ?_
        first | refine XR_a (op_addN (n := 1) rfl rfl (by simp only [inK]; omega)) rfl rfl ?_ | refine XR_a (op_addI rfl rfl (by simp only [inK]; omega)) rfl rfl ?_ | refine XR_a (op_add rfl rfl) rfl rfl ?_
        refine XR_a (op_assign rfl) rfl rfl ?_
        refine XR_nil ?_
        exact X_again (i + 1, S.take p ++ x :: S.drop p) (.cons rfl (.cons rfl (.cons rfl (.cons rfl (.cons rfl (.nil _)))))) (hfin (.inr (Nat.le_of_not_lt fun h2 => h (cmpI_neg.2 h2)))) (by simp only; omega)
    · refine XR_no rfl rfl ?_
      refine XR_no rfl rfl ?_
      refine XR_no rfl rfl ?_
      refine XR_no rfl rfl ?_
      refine XR_no rfl rfl ?_
      refine XR_no rfl rfl ?_
      refine XR_no rfl rfl ?_
      refine XR_no rfl rfl ?_
      refine XR_no rfl rfl ?_
      refine XR_no rfl rfl ?_
      refine XR_no rfl rfl ?_
      refine XR_no rfl rfl ?_
      refine XR_a (op_pick_f rfl rfl) rfl rfl ?_
      refine XR_nil ?_
      refine X_else rfl ?_
      refine X_exit rfl ?_
      refine X_blk ?_
      refine X_reg ?_
      refine XR_a (op_move rfl) rfl rfl ?_
      first | refine XR_a (op_addN (n := 1) rfl rfl (by simp only [inK]; omega)) rfl rfl ?_ | refine XR_a (op_addI rfl rfl (by simp only [inK]; omega)) rfl rfl ?_ | refine XR_a (op_add rfl rfl) rfl rfl ?_
      refine XR_a (op_assign rfl) rfl rfl ?_
      refine XR_nil ?_
      exact X_again (i + 1, S.take p ++ x :: S.drop p) (.cons rfl (.cons rfl (.cons rfl (.cons rfl (.cons rfl (.nil _)))))) (hfin (.inl (by omega))) (by simp only; omega)
  · refine X_exit rfl ?_
    refine X_end .nil ?_
    rw [List.take_of_length_le (by omega)] at hS
    rw [List.drop_of_length_le (by omega)] at st
    exact ⟨S, hS, hSs, st⟩
end Go.Bn
