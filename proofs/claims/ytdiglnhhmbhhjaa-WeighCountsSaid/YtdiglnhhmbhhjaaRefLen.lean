/- The contracts of bindleref07.Items, Row and Lengths. -/
import Derived.Test.YtdiglnhhmbhhjaaWeigh3
set_option linter.unusedVariables false
set_option linter.unusedSimpArgs false
set_option maxHeartbeats 4000000
set_option maxRecDepth 20000
namespace Go.Bn
open Go Proofs

theorem St.flatAt {α : Type} (f : α → List Value) (s : Nat) (hf : ∀ x, (f x).length = s) (hs : 0 < s) {B T g n c i : Nat} {l : List α} {x : α} {rs : List Res} {hb h0 : Heap} (st : St B hb h0 rs) (j : Nat) (hj : rs[j]? = some (Bn.row T s (.slice (some ⟨g, 0, none⟩) n c) (l.flatMap f))) (h : l[i]? = some x) :
    ∀ j u, (f x)[j]? = some u → cellH h0 ⟨g, 0 + i * s + j, none⟩ = some u := by
  intro q u hu
  obtain ⟨hi, he⟩ := List.getElem?_eq_some_iff.1 h
  have hrd := (st.rdS j hj).2
  obtain ⟨b, o, he2, hc⟩ := Rd.flat f s hrd hf hs (by omega)
  cases he2
  exact hc i hi q u (by rw [he]; exact hu)
theorem flat_put {α : Type} (f : α → List Value) (s : Nat) (hf : ∀ x, (f x).length = s) (A C : List α) (x y : α) {o : Nat} (ho : o = A.length * s) :
    ((A ++ x :: C).flatMap f).take o ++ f y ++ ((A ++ x :: C).flatMap f).drop (o + (f y).length) = (A ++ y :: C).flatMap f := by
  have hA := flat_length f s hf A
  subst ho
  rw [← hA]
  simp only [List.flatMap_append, List.flatMap_cons]
  rw [List.take_left, List.append_assoc, List.append_cancel_left_eq, List.append_cancel_left_eq, ← List.drop_drop, List.drop_left, hf y, ← hf x, List.drop_left]
/-- An item, as cells: its symbol, its weight. -/
def pC (ws : List Nat) (s : Nat) : List Value := [nV s, nV (wkey ws s)]
theorem one_pC (ws : List Nat) (s : Nat) : ∀ u ∈ pC ws s, Value.one u = true := by intro u hu; simp only [pC, List.mem_cons, List.not_mem_nil, or_false] at hu; rcases hu with rfl | rfl <;> rfl

theorem items_ref {n c : Nat} {A : Option Addr} {ws : List Nat} {h0 : Heap} (hr : Rd h0 A (ws.map nV)) (hl : ws.length = n) (hn : n ≤ 1048576) :
    Ret Try.prog 74 [.slice A n c] h0 fun v h' => St h0.size h0 h' [row 114 2 v ((syms ws).flatMap (pC ws))] := by
  refine ret_of_X Try.func74 rfl rfl fun w0 hw0 => ?_
  simp only [argE, Nat.zero_add, Nat.reduceAdd]
  refine X_seq ?_
  refine X_reg ?_
  refine XR_a (op_assign rfl) rfl rfl ?_
  refine XR_nil ?_
  refine X_seq ?_
  refine X_reg ?_
  refine XR_a (op_assign rfl) rfl rfl ?_
  refine XR_nil ?_
  refine X_seq ?_
  refine X_seq ?_
  refine X_reg ?_
  refine XR_a (op_assign rfl) rfl rfl ?_
  refine XR_nil ?_
  refine X_block ?_
  have st := (St.start h0).nilrow 114 2
  refine X_loop (fun s => n - s.1) (fun s => [(0, .slice A n c), (3, s.2.1), (4, nV s.1)])
    (fun (s : Nat × Value × List Nat) hp => St h0.size h0 hp [row 114 2 s.2.1 (s.2.2.flatMap (pC ws))] ∧ s.1 ≤ n ∧ s.2.2.Perm (fltTo ws s.1) ∧ RkS (wkey ws) s.2.2)
    (0, _, []) (.cons rfl (.cons rfl (.cons rfl (.nil _)))) ⟨st, by simp only; omega, List.Perm.refl _, List.Pairwise.nil⟩ ?_
  clear st
  rintro ⟨i, v, S⟩ hp ⟨st, hi, hS, hSs⟩
  simp only at st hi hS hSs ⊢
  refine X_seq ?_
  refine X_seq ?_
  refine X_reg ?_
  refine XR_a (op_move rfl) rfl rfl ?_
  refine XR_a (op_move rfl) rfl rfl ?_
  refine XR_a (op_len rfl rfl rfl) rfl rfl ?_
  refine XR_a (op_lss rfl rfl) rfl rfl ?_
  refine XR_nil ?_
  refine X_if rfl (fun h => ?_) (fun h => ?_)
  · have hlt : i < ws.length := by omega
    obtain ⟨g0, o0, rfl, hc⟩ := hr.at_ (by rw [List.length_map]; omega)
    have hci := fun {hp : Heap} (hx : Ext h0 hp) => cellH_ext (a := ⟨g0, o0 + i, none⟩) hx (hc i (nV (wkey ws i)) (by unfold wkey; simp [List.getD, hlt]))
    have hfs := fltTo_succ ws i
    have hfl := fltTo_len ws i
    have hSl := hS.length_eq
    refine X_skip ?_
    refine X_seq ?_
    refine X_block ?_
    refine X_seq ?_
    refine X_seq ?_
    refine X_reg ?_
    refine XR_a (op_move rfl) rfl rfl ?_
    refine XR_a (op_move rfl) rfl rfl ?_
    first | refine XR_a (op_index1 rfl rfl rfl (by omega)) rfl rfl ?_ | refine XR_a (op_index rfl rfl rfl (by omega)) rfl rfl ?_
    refine XR_a (op_ld (hci st.low) rfl rfl rfl) rfl rfl ?_
    refine XR_a (op_eql rfl rfl) rfl rfl ?_
    refine XR_nil ?_
    refine X_if rfl (fun h => ?_) (fun h => ?_)
    · refine X_exit rfl ?_
      refine X_reg ?_
      refine XR_a (op_move rfl) rfl rfl ?_
      first | refine XR_a (op_addN (n := 1) rfl rfl (by simp only [inK]; omega)) rfl rfl ?_ | refine XR_a (op_addI rfl rfl (by simp only [inK]; omega)) rfl rfl ?_ | refine XR_a (op_add rfl rfl) rfl rfl ?_
      refine XR_a (op_assign rfl) rfl rfl ?_
      refine XR_nil ?_
      rw [if_neg (by omega), List.append_nil] at hfs
      exact X_again (i + 1, v, S) (.cons rfl (.cons rfl (.cons rfl (.nil _)))) ⟨st, by simp only; omega, by rw [hfs]; exact hS, hSs⟩ (by simp only; omega)
    · refine X_skip ?_
      refine X_seq ?_
      refine X_reg ?_
      refine XR_a (op_move rfl) rfl rfl ?_
      refine XR_a (op_move rfl) rfl rfl ?_
      refine XR_a (op_move rfl) rfl rfl ?_
      refine XR_a (op_move rfl) rfl rfl ?_
      first | refine XR_a (op_index1 rfl rfl rfl (by omega)) rfl rfl ?_ | refine XR_a (op_index rfl rfl rfl (by omega)) rfl rfl ?_
      refine XR_a (op_ld (hci st.low) rfl rfl rfl) rfl rfl ?_
      refine XR_a (op_build (ps := [(0, nV i), (1, nV (wkey ws i))]) (cs := (pC ws i).toArray) rfl rfl) rfl rfl ?_
      refine XR_wa (opl_varA (us := pC ws i) rfl rfl rfl rfl (by kernel_rfl)) rfl rfl rfl ?_
      rintro _ hp ⟨A9, rfl, hx9, hrd⟩
      replace st := st.ext hx9
      refine XR_wa (opl_append st 0 rfl (hrd) (rfl) (one_pC ws i) (by rw [flat_length _ 2 (fun _ => rfl)]; simp [pC]; omega) rfl rfl rfl rfl rfl rfl rfl) rfl rfl rfl fun v hp st => ?_
      simp only [List.set_cons_zero, List.set_cons_succ] at st
      have e2 : S.flatMap (pC ws) ++ pC ws i = (S ++ [i]).flatMap (pC ws) := by rw [List.flatMap_append]; simp
      rw [e2] at st
      obtain ⟨g, n9, c9, rfl, hl9, _⟩ := st.row0 0 rfl (by rw [flat_length _ 2 (fun _ => rfl), List.length_append, List.length_singleton]; omega)
      rw [flat_length _ 2 (fun _ => rfl)] at hl9
      simp only [List.length_append, List.length_cons, List.length_nil] at hl9
      refine XR_a (op_assign rfl) rfl rfl ?_
      refine XR_nil ?_
      refine X_seq ?_
      refine X_reg ?_
      refine XR_a (op_move rfl) rfl rfl ?_
      refine XR_a (op_len rfl rfl rfl) rfl rfl ?_
      first | refine XR_a (op_subN (n := 1) rfl rfl (by omega) (by simp only [inK]; omega)) rfl rfl ?_ | refine XR_a (op_subI rfl rfl (by simp only [inK]; omega)) rfl rfl ?_ | refine XR_a (op_sub rfl rfl) rfl rfl ?_
      refine XR_a (op_assign rfl) rfl rfl ?_
      refine XR_nil ?_
      refine X_block ?_
      rw [if_pos (by omega)] at hfs
      have hpre : PreM (wkey ws) S [i] := by
        refine ⟨hSs, by simp, fun u hu w hw _ => ?_⟩
        obtain rfl : w = i := by simpa using hw
        rw [hS.mem_iff] at hu
        exact List.mem_range.1 (List.mem_filter.1 hu).1
      refine X_loop (fun p => p) (fun p => [(0, .slice (some ⟨g0, o0, none⟩) n c), (3, .slice (some ⟨g, 0, none⟩) n9 c9), (4, nV i), (5, nV p)])
        (fun (p : Nat) hp => p ≤ S.length ∧ (S.length ≤ p ∨ wkey ws i < wkey ws (S.getD p 0)) ∧ St h0.size h0 hp [row 114 2 (.slice (some ⟨g, 0, none⟩) n9 c9) ((S.take p ++ i :: S.drop p).flatMap (pC ws))])
        S.length (.cons rfl (.cons rfl (.cons rfl (.cons (by rw [show n9 - 1 = S.length by omega]; rfl) (.nil _))))) ⟨Nat.le_refl _, .inl (Nat.le_refl _), by rw [List.take_of_length_le (Nat.le_refl _), List.drop_of_length_le (Nat.le_refl _)]; exact st⟩ ?_
      clear st
      rintro p hp ⟨hpS, hpk, st⟩
      have hfin : (p = 0 ∨ wkey ws (S.getD (p - 1) 0) ≤ wkey ws i) → (S.take p ++ i :: S.drop p).Perm (fltTo ws (i + 1)) ∧ RkS (wkey ws) (S.take p ++ i :: S.drop p) := fun h1 => by
        obtain ⟨m1, m2⟩ := mrg_right hpre hpS h1 hpk
        exact ⟨m1.trans (by rw [hfs]; exact hS.append_right _), m2⟩
      refine X_seq ?_
      refine X_seq ?_
      refine X_draw byKind (by kernel_rfl) (by kernel_rfl) ?_
      refine XR_a (op_move rfl) rfl rfl ?_
      refine XR_a (op_gtr rfl rfl) rfl rfl ?_
      refine XR_a (op_move rfl) rfl rfl ?_
      refine XR_if 32 rfl (fun h => ?_) (fun h => ?_)
      · have hp1 : p - 1 < S.length := by omega
        have e1 : S.take p ++ i :: S.drop p = S.take (p - 1) ++ S.getD (p - 1) 0 :: ([] ++ i :: S.drop p) := by
          have := take_snoc hp1
          rw [show p - 1 + 1 = p by omega] at this
          rw [this]; simp
        have e3 : S.take (p - 1) ++ i :: S.drop (p - 1) = S.take (p - 1) ++ i :: ([] ++ S.getD (p - 1) 0 :: S.drop p) := by
          have := drop_cons hp1
          rw [show p - 1 + 1 = p by omega] at this
          rw [this]; simp
        have hia : p - 1 = (S.take (p - 1)).length := by rw [List.length_take]; omega
        have hib : p = (S.take (p - 1)).length + 1 + ([] : List Nat).length := by rw [List.length_take, List.length_nil]; omega
        rw [e1] at st
        have hcp := St.flatAt (pC ws) 2 (fun _ => rfl) (by omega) st 0 rfl (get_mid2 (S.take (p - 1)) [] (S.drop p) (S.getD (p - 1) 0) i hib)
        have hcq := St.flatAt (pC ws) 2 (fun _ => rfl) (by omega) st 0 rfl (get_mid (S.take (p - 1)) ([] ++ i :: S.drop p) (S.getD (p - 1) 0) hia)
        refine XR_a (op_move rfl) rfl rfl ?_
        refine XR_a (op_move rfl) rfl rfl ?_
        refine XR_a (op_index (i := p) rfl rfl rfl (by omega)) rfl rfl ?_
        first | refine XR_a (op_field0 rfl rfl) rfl rfl ?_ | refine XR_a (op_fieldn rfl rfl) rfl rfl ?_
        refine XR_a (op_ld (hcp 1 _ rfl) rfl rfl rfl) rfl rfl ?_
        refine XR_a (op_move rfl) rfl rfl ?_
        refine XR_a (op_move rfl) rfl rfl ?_
        first | refine XR_a (op_subN (n := 1) rfl rfl (by omega) (by simp only [inK]; omega)) rfl rfl ?_ | refine XR_a (op_subI rfl rfl (by simp only [inK]; omega)) rfl rfl ?_ | refine XR_a (op_sub rfl rfl) rfl rfl ?_
        refine XR_a (op_index (i := p - 1) rfl rfl rfl (by omega)) rfl rfl ?_
        first | refine XR_a (op_field0 rfl rfl) rfl rfl ?_ | refine XR_a (op_fieldn rfl rfl) rfl rfl ?_
        refine XR_a (op_ld (hcq 1 _ rfl) rfl rfl rfl) rfl rfl ?_
        refine XR_a (op_lss rfl rfl) rfl rfl ?_
        refine XR_a (op_pick_t rfl rfl) rfl rfl ?_
        refine XR_nil ?_
        refine X_if rfl (fun h => ?_) (fun h => ?_)
        · refine X_skip ?_
          refine X_seq ?_
          refine X_block ?_
          refine X_seq ?_
          refine X_reg ?_
          refine XR_a (op_move rfl) rfl rfl ?_
          refine XR_a (op_move rfl) rfl rfl ?_
          refine XR_a (op_index (i := p) rfl rfl rfl (by omega)) rfl rfl ?_
          refine XR_a (op_ldA (vs := pC ws i) (fun j u hu => hcp j u hu) rfl rfl rfl rfl) rfl rfl ?_
          refine XR_wa (opl_new rfl) rfl rfl rfl ?_
          rintro _ hp ⟨p6, rfl, hnew⟩
          replace st := st.new hnew
          refine XR_wn (opl_store_whole (us := pC ws i) st 0 rfl rfl rfl rfl rfl (one_pC ws i) rfl) rfl rfl fun _ hp st => ?_
          simp only [List.set_cons_zero] at st
          have hcq2 := St.flatAt (pC ws) 2 (fun _ => rfl) (by omega) st 1 rfl (get_mid (S.take (p - 1)) ([] ++ i :: S.drop p) (S.getD (p - 1) 0) hia)
          refine XR_nil ?_
          refine X_seq ?_
          refine X_reg ?_
          refine XR_a (op_move rfl) rfl rfl ?_
          refine XR_a (op_move rfl) rfl rfl ?_
          refine XR_a (op_move rfl) rfl rfl ?_
          refine XR_a (op_move rfl) rfl rfl ?_
          first | refine XR_a (op_subN (n := 1) rfl rfl (by omega) (by simp only [inK]; omega)) rfl rfl ?_ | refine XR_a (op_subI rfl rfl (by simp only [inK]; omega)) rfl rfl ?_ | refine XR_a (op_sub rfl rfl) rfl rfl ?_
          refine XR_a (op_index (i := p - 1) rfl rfl rfl (by omega)) rfl rfl ?_
          refine XR_a (op_ldA (vs := pC ws (S.getD (p - 1) 0)) (fun j u hu => hcq2 j u hu) rfl rfl rfl rfl) rfl rfl ?_
          refine XR_a (op_index (i := p) rfl rfl rfl (by omega)) rfl rfl ?_
          refine XR_wn (opl_store_rows (us := pC ws (S.getD (p - 1) 0)) (o := 0 + p * 2) st 1 rfl rfl rfl rfl rfl (one_pC ws _) (by rw [flat_length _ 2 (fun _ => rfl)]; simp [pC]; omega)) rfl rfl fun _ hp st => ?_
          simp only [List.set_cons_zero, List.set_cons_succ] at st
          have e5 := flat_put (pC ws) 2 (fun _ => rfl) (S.take (p - 1) ++ [S.getD (p - 1) 0]) (S.drop p) i (S.getD (p - 1) 0) (o := 0 + p * 2) (by simp only [List.length_append, List.length_cons, List.length_nil]; omega)
          rw [show S.take (p - 1) ++ S.getD (p - 1) 0 :: ([] ++ i :: S.drop p) = (S.take (p - 1) ++ [S.getD (p - 1) 0]) ++ i :: S.drop p by simp, e5] at st
          refine XR_nil ?_
          refine X_reg ?_
          refine XR_a (op_move rfl) rfl rfl ?_
          refine XR_a (op_move rfl) rfl rfl ?_
          first | refine XR_a (op_subN (n := 1) rfl rfl (by omega) (by simp only [inK]; omega)) rfl rfl ?_ | refine XR_a (op_subI rfl rfl (by simp only [inK]; omega)) rfl rfl ?_ | refine XR_a (op_sub rfl rfl) rfl rfl ?_
          refine XR_a (op_ldA (vs := pC ws i) (st.cells 0 rfl) rfl rfl rfl rfl) rfl rfl ?_
          refine XR_a (op_index (i := p - 1) rfl rfl rfl (by omega)) rfl rfl ?_
          refine XR_wn (opl_store_rows (us := pC ws i) (o := 0 + (p - 1) * 2) st 1 rfl rfl rfl rfl rfl (one_pC ws _) (by rw [flat_length _ 2 (fun _ => rfl)]; simp [pC]; omega)) rfl rfl fun _ hp st => ?_
          simp only [List.set_cons_zero, List.set_cons_succ] at st
          have e6 := flat_put (pC ws) 2 (fun _ => rfl) (S.take (p - 1)) (S.getD (p - 1) 0 :: S.drop p) (S.getD (p - 1) 0) i (o := 0 + (p - 1) * 2) (by omega)
          rw [show (S.take (p - 1) ++ [S.getD (p - 1) 0]) ++ S.getD (p - 1) 0 :: S.drop p = S.take (p - 1) ++ S.getD (p - 1) 0 :: (S.getD (p - 1) 0 :: S.drop p) by simp, e6, show S.take (p - 1) ++ i :: (S.getD (p - 1) 0 :: S.drop p) = S.take (p - 1) ++ i :: ([] ++ S.getD (p - 1) 0 :: S.drop p) by simp, ← e3] at st
          refine XR_nil ?_
          refine X_blk ?_
          refine X_reg ?_
          refine XR_a (op_move rfl) rfl rfl ?_
          first | refine XR_a (op_subN (n := 1) rfl rfl (by omega) (by simp only [inK]; omega)) rfl rfl ?_ | refine XR_a (op_subI rfl rfl (by simp only [inK]; omega)) rfl rfl ?_ | refine XR_a (op_sub rfl rfl) rfl rfl ?_
          refine XR_a (op_assign rfl) rfl rfl ?_
          refine XR_nil ?_
          exact X_again (p - 1) (.cons rfl (.cons rfl (.cons rfl (.cons rfl (.nil _))))) ⟨by omega, .inr (by omega), st.tail⟩ (by omega)
        · refine X_exit rfl ?_
          refine X_blk ?_
          refine X_reg ?_
          refine XR_a (op_move rfl) rfl rfl ?_
          first | refine XR_a (op_addN (n := 1) rfl rfl (by simp only [inK]; omega)) rfl rfl ?_ | refine XR_a (op_addI rfl rfl (by simp only [inK]; omega)) rfl rfl ?_ | refine XR_a (op_add rfl rfl) rfl rfl ?_
          refine XR_a (op_assign rfl) rfl rfl ?_
          refine XR_nil ?_
          rw [← e1] at st
          exact X_again (i + 1, _, S.take p ++ i :: S.drop p) (.cons rfl (.cons rfl (.cons rfl (.nil _)))) ⟨st, by simp only; omega, (hfin (.inr (by omega))).1, (hfin (.inr (by omega))).2⟩ (by simp only; omega)
      · refine XR_no rfl rfl ?_
        refine XR_no rfl rfl ?_
        refine XR_no rfl rfl ?_
        refine XR_no rfl rfl ?_
        refine XR_no rfl rfl ?_
        refine XR_no rfl rfl ?_
        refine XR_no rfl rfl ?_
        refine XR_no rfl rfl ?_
        refine XR_no rfl rfl ?_
        refine XR_no rfl rfl ?_
        refine XR_no rfl rfl ?_
        refine XR_no rfl rfl ?_
        refine XR_a (op_pick_f rfl rfl) rfl rfl ?_
        refine XR_nil ?_
        refine X_else rfl ?_
        refine X_exit rfl ?_
        refine X_blk ?_
        refine X_reg ?_
        refine XR_a (op_move rfl) rfl rfl ?_
        first | refine XR_a (op_addN (n := 1) rfl rfl (by simp only [inK]; omega)) rfl rfl ?_ | refine XR_a (op_addI rfl rfl (by simp only [inK]; omega)) rfl rfl ?_ | refine XR_a (op_add rfl rfl) rfl rfl ?_
        refine XR_a (op_assign rfl) rfl rfl ?_
        refine XR_nil ?_
        exact X_again (i + 1, _, S.take p ++ i :: S.drop p) (.cons rfl (.cons rfl (.cons rfl (.nil _)))) ⟨st, by simp only; omega, (hfin (.inl (by omega))).1, (hfin (.inl (by omega))).2⟩ (by simp only; omega)
  · refine X_exit rfl ?_
    refine X_seq ?_
    refine X_reg ?_
    refine XR_a (op_move rfl) rfl rfl ?_
    refine XR_a (op_assign rfl) rfl rfl ?_
    refine XR_nil ?_
    refine X_ret (.cons (.tmp rfl) .nil) ?_
    obtain rfl : i = n := by omega
    have hfe : fltTo ws i = flt ws := by unfold fltTo flt; rw [hl]
    rw [hfe] at hS
    rw [← syms_eq hS hSs]
    exact st
end Go.Bn
