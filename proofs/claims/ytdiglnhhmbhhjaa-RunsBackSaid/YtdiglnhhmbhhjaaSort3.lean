/- The contract of the library's stable sort, and of weigh.items. -/
import Derived.Test.YtdiglnhhmbhhjaaSort2
set_option linter.unusedVariables false
set_option linter.unusedSimpArgs false
set_option maxHeartbeats 4000000
set_option maxRecDepth 20000
namespace Go.Bn
open Go Proofs

theorem stable_spec {B g n c k : Nat} {l0 : List Nat} {caps : Array Value} {key : Nat → Nat} {good : Nat → Prop} {F : List Res} {h0 : Heap} (st0 : St B h0 h0 (rowN g n c l0 :: F)) (hcmp : CmpOK B h0 F k caps key good)
    (hlt : l0.Pairwise (· < ·)) (hg : ∀ x ∈ l0, good x) (hn : n ≤ 1099511627776) :
    Ret Try.prog 131 [.slice (some ⟨g, 0, none⟩) n c, nV n, .func (.func k) #[] caps] h0 fun _ h' => ∃ l, l.Perm l0 ∧ RkS key l ∧ St B h0 h' (rowN g n c l :: F) := by
  have hln := st0.natLen
  refine ret_of_X Try.func131 rfl rfl fun w0 hw0 => ?_
  simp only [argE, Nat.zero_add, Nat.reduceAdd]
  refine X_seq ?_
  refine X_reg ?_
  refine XR_a (op_assign rfl) rfl rfl ?_
  refine XR_nil ?_
  refine X_seq ?_
  refine X_reg ?_
  refine XR_a (op_move rfl) rfl rfl ?_
  refine XR_a (op_assign rfl) rfl rfl ?_
  refine XR_a (op_assign rfl) rfl rfl ?_
  refine XR_nil ?_
  refine X_seq ?_
  refine X_block ?_
  refine X_loop (fun s => n + 20 - 20 * s.1) (fun s => [(0, .slice (some ⟨g, 0, none⟩) n c), (1, nV n), (2, .func (.func k) #[] caps), (6, nV 20), (7, nV (s.1 * 20)), (8, nV (s.1 * 20 + 20))])
    (fun (s : Nat × List Nat) hp => (∀ k', k' < s.1 → BOK key 20 s.2 l0 k') ∧ (∀ k', s.1 ≤ k' → blk 20 k' s.2 = blk 20 k' l0) ∧ s.1 * 20 ≤ n ∧ St B h0 hp (rowN g n c s.2 :: F))
    (0, l0) (.cons rfl (.cons rfl (.cons rfl (.cons rfl (.cons rfl (.cons rfl (.nil _))))))) ⟨fun k' h => by simp only at h; omega, fun _ _ => rfl, by simp only; omega, st0⟩ ?_
  rintro ⟨i, l⟩ hp ⟨hdone, hrest, hin, st⟩
  simp only at hdone hrest hin st ⊢
  have hll := st.natLen
  have hgb : ∀ x ∈ blk 20 i l, good x := fun x hx => by
    rw [hrest i (Nat.le_refl _)] at hx; exact hg x (mem_blk hx)
  have hltb : (blk 20 i l).Pairwise (· < ·) := by
    rw [hrest i (Nat.le_refl _)]; exact hlt.sublist ((List.take_sublist _ _).trans (List.drop_sublist _ _))
  have hbl := blk_length (B := 20) (k := i) (l := l)
  have e := cut3 l (i * 20) 20
  have e2 : (l.drop (i * 20)).take 20 = blk 20 i l := rfl
  rw [e2] at e
  have hXl : (l.take (i * 20)).length = i * 20 := by rw [List.length_take]; omega
  have hYl : (blk 20 i l).length = 20 ∨ l.drop (i * 20 + 20) = [] := by
    rcases Nat.lt_or_ge n (i * 20 + 20) with h | h
    · right; exact List.drop_of_length_le (by omega)
    · left; omega
  have hstep : ∀ M', M'.Perm (blk 20 i l) → RkS key M' → (∀ k', k' < i + 1 → BOK key 20 (l.take (i * 20) ++ (M' ++ l.drop (i * 20 + 20))) l0 k') ∧ (∀ k', i + 1 ≤ k' → blk 20 k' (l.take (i * 20) ++ (M' ++ l.drop (i * 20 + 20))) = blk 20 k' l0) := fun M' hp hs => by
    refine ⟨fun k' hk => ?_, fun k' hk => ?_⟩
    · rcases Nat.lt_or_ge k' i with h | h
      · have := hdone k' h
        rw [e] at this
        refine this.keep hp.length_eq (.inr ?_)
        rw [hXl]; exact Nat.mul_le_mul_right _ h
      · obtain rfl : k' = i := by omega
        refine BOK.put hXl (by omega) hYl ?_ hp.length_eq hs
        rw [← hrest k' (Nat.le_refl _)]; exact hp
    · have h2 := hrest k' (by omega)
      rw [e] at h2
      rw [blk_other hXl hp.length_eq (by omega) hYl (by omega), h2]
  obtain ⟨X, hX⟩ : ∃ X, l.take (i * 20) = X := ⟨_, rfl⟩
  obtain ⟨M, hM⟩ : ∃ M, blk 20 i l = M := ⟨_, rfl⟩
  obtain ⟨Y, hY⟩ : ∃ Y, l.drop (i * 20 + 20) = Y := ⟨_, rfl⟩
  rw [hX, hM, hY] at e
  rw [hX] at hXl
  rw [hM] at hgb hltb hbl
  rw [hM, hY] at hYl
  rw [hX, hM, hY] at hstep
  rw [e] at st
  refine X_seq ?_
  refine X_seq ?_
  refine X_reg ?_
  refine XR_a (op_move rfl) rfl rfl ?_
  refine XR_a (op_move rfl) rfl rfl ?_
  refine XR_a (op_leq rfl rfl) rfl rfl ?_
  refine XR_nil ?_
  refine X_if rfl (fun h => ?_) (fun h => ?_)
  · refine X_skip ?_
    refine X_block ?_
    refine X_seq ?_
    refine X_reg ?_
    refine XR_a (op_move rfl) rfl rfl ?_
    refine XR_a (op_move rfl) rfl rfl ?_
    refine XR_a (op_move rfl) rfl rfl ?_
    refine XR_a (op_move rfl) rfl rfl ?_
    refine XR_wa (opl_call (insertion_spec st.here (hcmp.here st) hXl (b := i * 20 + 20) (by omega) hltb hgb hn) rfl (by kernel_rfl)) rfl rfl rfl ?_
    rintro _ hp2 ⟨M', hp', hs', st2⟩
    replace st := st.trans st2
    refine XR_nil ?_
    refine X_seq ?_
    refine X_reg ?_
    refine XR_a (op_move rfl) rfl rfl ?_
    refine XR_a (op_assign rfl) rfl rfl ?_
    refine XR_nil ?_
    refine X_reg ?_
    refine XR_a (op_move rfl) rfl rfl ?_
    refine XR_a (op_move rfl) rfl rfl ?_
    first | refine XR_a (op_addN rfl rfl (by simp only [inK]; omega)) rfl rfl ?_ | refine XR_a (op_addI rfl rfl (by simp only [inK]; omega)) rfl rfl ?_ | refine XR_a (op_add rfl rfl) rfl rfl ?_
    refine XR_a (op_assign rfl) rfl rfl ?_
    refine XR_nil ?_
    refine X_blk ?_
    exact X_again (i + 1, X ++ (M' ++ Y)) (.cons rfl (.cons rfl (.cons rfl (.cons rfl (.cons (by rw [Nat.add_mul]; rfl) (.cons (by rw [Nat.add_mul]; rfl) (.nil _))))))) ⟨(hstep M' hp' hs').1, (hstep M' hp' hs').2, by simp only; omega, st⟩ (by simp only; omega)
  · refine X_exit rfl ?_
    refine X_seq ?_
    refine X_reg ?_
    refine XR_a (op_move rfl) rfl rfl ?_
    refine XR_a (op_move rfl) rfl rfl ?_
    refine XR_a (op_move rfl) rfl rfl ?_
    refine XR_a (op_move rfl) rfl rfl ?_
    refine XR_wa (opl_call (insertion_spec st.here (hcmp.here st) hXl (b := n) (by have := hYl; rw [e] at hll; simp only [List.length_append] at hll; rcases hYl with h1 | rfl; omega; simp at hll; omega) hltb hgb hn) rfl (by kernel_rfl)) rfl rfl rfl ?_
    rintro _ hp2 ⟨M', hp', hs', st2⟩
    replace st := st.trans st2
    refine XR_nil ?_
    refine X_block ?_
    have hfirst : ∀ k', BOK key 20 (X ++ (M' ++ Y)) l0 k' := fun k' => by
      rcases Nat.lt_or_ge k' (i + 1) with h1 | h1
      · exact (hstep M' hp' hs').1 k' h1
      · have h2 : (i + 1) * 20 ≤ k' * 20 := Nat.mul_le_mul_right _ h1
        have h3 := st.natLen
        exact BOK.out (by omega) (by omega)
    generalize X ++ (M' ++ Y) = l1 at st hfirst
    refine X_loop (fun s => n - s.1) (fun s => [(0, .slice (some ⟨g, 0, none⟩) n c), (1, nV n), (2, .func (.func k) #[] caps), (6, nV s.1)])
      (fun (s : Nat × List Nat) hp => 1 ≤ s.1 ∧ s.1 ≤ 4398046511104 ∧ (∀ k', BOK key s.1 s.2 l0 k') ∧ St B h0 hp (rowN g n c s.2 :: F))
      (20, l1) (.cons rfl (.cons rfl (.cons rfl (.cons rfl (.nil _))))) ⟨by simp only; omega, by simp only; omega, hfirst, st⟩ ?_
    clear st hfirst hstep hYl hbl hltb hgb hXl e e2 hdone hrest
    rintro ⟨Z, l1⟩ hp3 ⟨hZ1, hZ2, hall, st⟩
    simp only at hZ1 hZ2 hall st ⊢
    refine X_seq ?_
    refine X_seq ?_
    refine X_reg ?_
    refine XR_a (op_move rfl) rfl rfl ?_
    refine XR_a (op_move rfl) rfl rfl ?_
    refine XR_a (op_lss rfl rfl) rfl rfl ?_
    refine XR_nil ?_
    refine X_if rfl (fun h => ?_) (fun h => ?_)
    · refine X_skip ?_
      refine X_block ?_
      refine X_seq ?_
      refine X_reg ?_
      refine XR_a (op_move rfl) rfl rfl ?_
      first | refine XR_a (op_mulN (m := 2) rfl rfl (by simp only [inK]; omega)) rfl rfl ?_ | refine XR_a (op_mulI rfl rfl (by simp only [inK]; omega)) rfl rfl ?_ | refine XR_a (op_mul rfl rfl) rfl rfl ?_
      refine XR_a (op_assign rfl) rfl rfl ?_
      refine XR_a (op_assign rfl) rfl rfl ?_
      refine XR_nil ?_
      refine X_seq ?_
      refine X_block ?_
      have hD0 : 2 * Z = 0 + 2 * Z := by omega
      refine X_loop (fun s => n + 2 * Z - s.1 * (2 * Z)) (fun s => [(0, .slice (some ⟨g, 0, none⟩) n c), (1, nV n), (2, .func (.func k) #[] caps), (6, nV Z), (7, nV (s.1 * (2 * Z))), (8, nV (s.1 * (2 * Z) + 2 * Z))])
        (fun (s : Nat × List Nat) hp => (∀ k', k' < s.1 → BOK key (2 * Z) s.2 l0 k') ∧ (∀ k', 2 * s.1 ≤ k' → BOK key Z s.2 l0 k') ∧ s.1 * (2 * Z) ≤ n ∧ St B h0 hp (rowN g n c s.2 :: F))
        (0, l1) (.cons rfl (.cons rfl (.cons rfl (.cons rfl (.cons (by rw [Nat.zero_mul]; rfl) (.cons (by simp only [Nat.zero_mul, Nat.zero_add]; rfl) (.nil _))))))) ⟨fun k' h => by simp only at h; omega, fun k' _ => hall k', by simp only; omega, st⟩ ?_
      clear st
      rintro ⟨i, l⟩ hp4 ⟨hdone, hrest, hin, st⟩
      simp only at hdone hrest hin st ⊢
      have hll := st.natLen
      have e1 : 2 * i * Z = i * (2 * Z) := by rw [Nat.mul_comm 2 i, Nat.mul_assoc]
      have e2 : (2 * i + 1) * Z = i * (2 * Z) + Z := by rw [Nat.add_mul, Nat.one_mul, e1]
      have e3 : (i + 1) * (2 * Z) = i * (2 * Z) + 2 * Z := by rw [Nat.add_mul, Nat.one_mul]
      have e4 : (2 * i + 2) * Z = i * (2 * Z) + 2 * Z := by rw [Nat.add_mul, e1]
      have hbU := blk_length (B := Z) (k := 2 * i) (l := l)
      have hbV := blk_length (B := Z) (k := 2 * i + 1) (l := l)
      have hU := hrest (2 * i) (Nat.le_refl _)
      have hV := hrest (2 * i + 1) (by omega)
      have hpre := preM_blk (key := key) hlt hU hV
      have hgU : ∀ x ∈ blk Z (2 * i) l, good x := fun x hx => hg x (mem_blk (hU.1.mem_iff.1 hx))
      have hgV : ∀ x ∈ blk Z (2 * i + 1) l, good x := fun x hx => hg x (mem_blk (hV.1.mem_iff.1 hx))
      have e := cut3 l (i * (2 * Z)) (2 * Z)
      have e5 : (l.drop (i * (2 * Z))).take (2 * Z) = blk Z (2 * i) l ++ blk Z (2 * i + 1) l := blk_double Z i l
      rw [e5] at e
      have hXl : (l.take (i * (2 * Z))).length = i * (2 * Z) := by rw [List.length_take]; omega
      have hYl : (blk Z (2 * i) l ++ blk Z (2 * i + 1) l).length = 2 * Z ∨ l.drop (i * (2 * Z) + 2 * Z) = [] := by
        rcases Nat.lt_or_ge n (i * (2 * Z) + 2 * Z) with h | h
        · right; exact List.drop_of_length_le (by omega)
        · left; rw [List.length_append]; omega
      have hUV : (blk Z (2 * i) l ++ blk Z (2 * i + 1) l).Perm (blk (2 * Z) i l0) := by rw [blk_double]; exact hU.1.append hV.1
      obtain ⟨X, hX⟩ : ∃ X, l.take (i * (2 * Z)) = X := ⟨_, rfl⟩
      obtain ⟨U, hUe⟩ : ∃ U, blk Z (2 * i) l = U := ⟨_, rfl⟩
      obtain ⟨V, hVe⟩ : ∃ V, blk Z (2 * i + 1) l = V := ⟨_, rfl⟩
      obtain ⟨Y, hY⟩ : ∃ Y, l.drop (i * (2 * Z) + 2 * Z) = Y := ⟨_, rfl⟩
      rw [hX, hUe, hVe, hY] at e
      rw [hX] at hXl
      rw [hUe] at hbU hgU
      rw [hVe] at hbV hgV
      rw [hUe, hVe] at hpre hUV
      rw [hUe, hVe, hY] at hYl
      have hstep : ∀ W, Mrg key U V W → (∀ k', k' < i + 1 → BOK key (2 * Z) (X ++ (W ++ Y)) l0 k') ∧ (∀ k', 2 * (i + 1) ≤ k' → BOK key Z (X ++ (W ++ Y)) l0 k') := fun W hW => by
        refine ⟨fun k' hk => ?_, fun k' hk => ?_⟩
        · rcases Nat.lt_or_ge k' i with h | h
          · have := hdone k' h
            rw [e] at this
            refine this.keep hW.1.length_eq (.inr ?_)
            rw [hXl]; exact Nat.mul_le_mul_right _ h
          · obtain rfl : k' = i := by omega
            exact BOK.put hXl (by rw [List.length_append]; omega) hYl (hW.1.trans hUV) hW.1.length_eq hW.2
        · have h2 := hrest k' (by omega)
          rw [e] at h2
          refine h2.keep hW.1.length_eq (.inl ?_)
          have h3 : (2 * i + 2) * Z ≤ k' * Z := Nat.mul_le_mul_right _ (by omega)
          rw [hXl, List.length_append]; omega
      have st1 : St B h0 hp4 (rowN g n c (X ++ (U ++ (V ++ Y))) :: F) := by rw [← List.append_assoc U, ← e]; exact st
      refine X_seq ?_
      refine X_seq ?_
      refine X_reg ?_
      refine XR_a (op_move rfl) rfl rfl ?_
      refine XR_a (op_move rfl) rfl rfl ?_
      refine XR_a (op_leq rfl rfl) rfl rfl ?_
      refine XR_nil ?_
      refine X_if rfl (fun h => ?_) (fun h => ?_)
      · refine X_skip ?_
        refine X_block ?_
        refine X_seq ?_
        refine X_reg ?_
        refine XR_a (op_move rfl) rfl rfl ?_
        refine XR_a (op_move rfl) rfl rfl ?_
        refine XR_a (op_move rfl) rfl rfl ?_
        refine XR_a (op_move rfl) rfl rfl ?_
        first | refine XR_a (op_addN rfl rfl (by simp only [inK]; omega)) rfl rfl ?_ | refine XR_a (op_addI rfl rfl (by simp only [inK]; omega)) rfl rfl ?_ | refine XR_a (op_add rfl rfl) rfl rfl ?_
        refine XR_a (op_move rfl) rfl rfl ?_
        refine XR_a (op_move rfl) rfl rfl ?_
        refine XR_wa (opl_call (symMerge_spec _ g n c _ (i * (2 * Z) + Z) _ X U V Y _ st1.here (hcmp.here st1) hXl (by omega) (by omega) (by omega) (by omega) (Nat.le_refl _) hpre hgU hgV hn) rfl (by kernel_rfl)) rfl rfl rfl ?_
        rintro _ hp5 ⟨W, hW, st2⟩
        replace st := st1.trans st2
        refine XR_nil ?_
        refine X_seq ?_
        refine X_reg ?_
        refine XR_a (op_move rfl) rfl rfl ?_
        refine XR_a (op_assign rfl) rfl rfl ?_
        refine XR_nil ?_
        refine X_reg ?_
        refine XR_a (op_move rfl) rfl rfl ?_
        refine XR_a (op_move rfl) rfl rfl ?_
        first | refine XR_a (op_mulN (m := 2) rfl rfl (by simp only [inK]; omega)) rfl rfl ?_ | refine XR_a (op_mulI rfl rfl (by simp only [inK]; omega)) rfl rfl ?_ | refine XR_a (op_mul rfl rfl) rfl rfl ?_
        first | refine XR_a (op_addN rfl rfl (by simp only [inK]; omega)) rfl rfl ?_ | refine XR_a (op_addI rfl rfl (by simp only [inK]; omega)) rfl rfl ?_ | refine XR_a (op_add rfl rfl) rfl rfl ?_
        refine XR_a (op_assign rfl) rfl rfl ?_
        refine XR_nil ?_
        refine X_blk ?_
        exact X_again (i + 1, X ++ (W ++ Y)) (.cons rfl (.cons rfl (.cons rfl (.cons rfl (.cons (by simp only; rw [e3]; rfl) (.cons (by simp only; rw [e3]; rfl) (.nil _))))))) ⟨(hstep W hW).1, (hstep W hW).2, by simp only; omega, st⟩ (by simp only; omega)
      · refine X_exit rfl ?_
        refine X_seq ?_
        refine X_seq ?_
        refine X_reg ?_
        refine XR_a (op_move rfl) rfl rfl ?_
        refine XR_a (op_move rfl) rfl rfl ?_
        first | refine XR_a (op_addN rfl rfl (by simp only [inK]; omega)) rfl rfl ?_ | refine XR_a (op_addI rfl rfl (by simp only [inK]; omega)) rfl rfl ?_ | refine XR_a (op_add rfl rfl) rfl rfl ?_
        refine XR_a (op_assign rfl) rfl rfl ?_
        refine XR_nil ?_
        refine X_seq ?_
        refine X_reg ?_
        refine XR_a (op_move rfl) rfl rfl ?_
        refine XR_a (op_move rfl) rfl rfl ?_
        refine XR_a (op_lss rfl rfl) rfl rfl ?_
        refine XR_nil ?_
        refine X_if rfl (fun h => ?_) (fun h => ?_)
        · refine X_reg ?_
          refine XR_a (op_move rfl) rfl rfl ?_
          refine XR_a (op_move rfl) rfl rfl ?_
          refine XR_a (op_move rfl) rfl rfl ?_
          refine XR_a (op_move rfl) rfl rfl ?_
          refine XR_a (op_move rfl) rfl rfl ?_
          refine XR_wa (opl_call (symMerge_spec _ g n c _ (i * (2 * Z) + Z) _ X U V Y _ st1.here (hcmp.here st1) hXl (by omega) (by omega) (by omega) (by omega) (Nat.le_refl _) hpre hgU hgV hn) rfl (by kernel_rfl)) rfl rfl rfl ?_
          rintro _ hp5 ⟨W, hW, st2⟩
          replace st := st1.trans st2
          refine XR_nil ?_
          refine X_reg ?_
          refine XR_a (op_move rfl) rfl rfl ?_
          first | refine XR_a (op_mulN (n := 2) rfl rfl (by simp only [inK]; omega)) rfl rfl ?_ | refine XR_a (op_mulI rfl rfl (by simp only [inK]; omega)) rfl rfl ?_ | refine XR_a (op_mul rfl rfl) rfl rfl ?_
          refine XR_a (op_assign rfl) rfl rfl ?_
          refine XR_nil ?_
          refine X_blk ?_
          refine X_again (2 * Z, X ++ (W ++ Y)) (.cons rfl (.cons rfl (.cons rfl (.cons (by simp only; rw [Nat.mul_comm 2 Z]; rfl) (.nil _))))) ⟨by simp only; omega, by simp only; omega, fun k' => ?_, st⟩ (by simp only; omega)
          show BOK key (2 * Z) (X ++ (W ++ Y)) l0 k'
          rcases Nat.lt_or_ge k' (i + 1) with h1 | h1
          · exact (hstep W hW).1 k' h1
          · have h2 : (i + 1) * (2 * Z) ≤ k' * (2 * Z) := Nat.mul_le_mul_right _ h1
            have h3 := st.natLen
            exact BOK.out (by omega) (by omega)
        · refine X_skip ?_
          refine X_reg ?_
          refine XR_a (op_move rfl) rfl rfl ?_
          first | refine XR_a (op_mulN (n := 2) rfl rfl (by simp only [inK]; omega)) rfl rfl ?_ | refine XR_a (op_mulI rfl rfl (by simp only [inK]; omega)) rfl rfl ?_ | refine XR_a (op_mul rfl rfl) rfl rfl ?_
          refine XR_a (op_assign rfl) rfl rfl ?_
          refine XR_nil ?_
          refine X_blk ?_
          refine X_again (2 * Z, l) (.cons rfl (.cons rfl (.cons rfl (.cons (by simp only; rw [Nat.mul_comm 2 Z]; rfl) (.nil _))))) ⟨by simp only; omega, by simp only; omega, fun k' => ?_, st⟩ (by simp only; omega)
          show BOK key (2 * Z) l l0 k'
          rcases Nat.lt_trichotomy k' i with h1 | h1 | h1
          · exact hdone k' h1
          · subst h1
            exact BOK.double (by omega) (by omega) hU
          · have h2 : (i + 1) * (2 * Z) ≤ k' * (2 * Z) := Nat.mul_le_mul_right _ h1
            exact BOK.out (by omega) (by omega)
    · refine X_exit rfl ?_
      refine X_end .nil ?_
      have hll := st.natLen
      have h0' := hall 0
      unfold BOK at h0'
      rw [blk_all (by omega), blk_all (by omega)] at h0'
      exact ⟨l1, h0'.1, h0'.2, st⟩

theorem sortStable_spec {B g n c k : Nat} {l0 : List Nat} {caps : Array Value} {key : Nat → Nat} {good : Nat → Prop} {F : List Res} {h0 : Heap} (st0 : St B h0 h0 (rowN g n c l0 :: F)) (hcmp : CmpOK B h0 F k caps key good)
    (hlt : l0.Pairwise (· < ·)) (hg : ∀ x ∈ l0, good x) (hn : n ≤ 1099511627776) :
    Ret Try.prog 108 [.slice (some ⟨g, 0, none⟩) n c, .func (.func k) #[] caps] h0 fun _ h' => ∃ l, l.Perm l0 ∧ RkS key l ∧ St B h0 h' (rowN g n c l :: F) := by
  refine ret_of_X Try.func108 rfl rfl fun w0 hw0 => ?_
  simp only [argE, Nat.zero_add, Nat.reduceAdd]
  refine X_reg ?_
  refine XR_a (op_move rfl) rfl rfl ?_
  refine XR_a (op_move rfl) rfl rfl ?_
  refine XR_a (op_len rfl rfl rfl) rfl rfl ?_
  refine XR_a (op_move rfl) rfl rfl ?_
  refine XR_wa (opl_call (stable_spec st0 hcmp hlt hg hn) rfl (by kernel_rfl)) rfl rfl rfl ?_
  rintro _ hp h
  refine XR_nil ?_
  refine X_end .nil ?_
  exact h

theorem isNaN_spec {x : Int} {h0 : Heap} : Ret Try.prog 132 [.int .i64 x] h0 fun v h' => v = .bool false ∧ h0 = h' := by
  refine ret_of_X Try.func132 rfl rfl fun w0 hw0 => ?_
  simp only [argE, Nat.zero_add, Nat.reduceAdd]
  refine X_seq ?_
  refine X_reg ?_
  refine XR_a (op_assign rfl) rfl rfl ?_
  refine XR_nil ?_
  refine X_seq ?_
  refine X_reg ?_
  refine XR_a (op_move rfl) rfl rfl ?_
  refine XR_a (op_move rfl) rfl rfl ?_
  refine XR_a (op_neq rfl rfl) rfl rfl ?_
  refine XR_a (op_assign rfl) rfl rfl ?_
  refine XR_nil ?_
  refine X_ret (.cons (.tmp rfl) .nil) ?_
  exact ⟨congrArg Value.bool (decide_eq_false fun h => h rfl), rfl⟩
theorem compare_spec {x y : Nat} {h0 : Heap} : Ret Try.prog 110 [nV x, nV y] h0 fun v h' => v = .int .i64 (cmpI x y) ∧ h0 = h' := by
  refine ret_of_X Try.func110 rfl rfl fun w0 hw0 => ?_
  simp only [argE, Nat.zero_add, Nat.reduceAdd]
  refine X_seq ?_
  refine X_reg ?_
  refine XR_a (op_assign rfl) rfl rfl ?_
  refine XR_nil ?_
  refine X_seq ?_
  refine X_reg ?_
  refine XR_a (op_move rfl) rfl rfl ?_
  refine XR_wa (opl_call (isNaN_spec) rfl (by kernel_rfl)) rfl rfl rfl ?_
  rintro _ _ ⟨rfl, rfl⟩
  refine XR_a (op_assign rfl) rfl rfl ?_
  refine XR_nil ?_
  refine X_seq ?_
  refine X_reg ?_
  refine XR_a (op_move rfl) rfl rfl ?_
  refine XR_wa (opl_call (isNaN_spec) rfl (by kernel_rfl)) rfl rfl rfl ?_
  rintro _ _ ⟨rfl, rfl⟩
  refine XR_a (op_assign rfl) rfl rfl ?_
  refine XR_nil ?_
  refine X_seq ?_
  refine X_seq ?_
  refine X_reg ?_
  refine XR_a (op_move rfl) rfl rfl ?_
  refine XR_nil ?_
  refine X_else rfl ?_
  refine X_skip ?_
  refine X_seq ?_
  refine X_seq ?_
  refine X_reg ?_
  refine XR_a (op_move rfl) rfl rfl ?_
  refine XR_nil ?_
  refine X_else rfl ?_
  refine X_skip ?_
  refine X_seq ?_
  refine X_seq ?_
  refine X_reg ?_
  refine XR_a (op_move rfl) rfl rfl ?_
  refine XR_a (op_move rfl) rfl rfl ?_
  refine XR_a (op_lss rfl rfl) rfl rfl ?_
  refine XR_nil ?_
  refine X_if rfl (fun h => ?_) (fun h => ?_)
  · refine X_seq ?_
    refine X_reg ?_
    refine XR_a (op_assign rfl) rfl rfl ?_
    refine XR_nil ?_
    refine X_ret (.cons (.tmp rfl) .nil) ?_
    unfold cmpI
    exact ⟨by rw [if_pos (by omega)]; rfl, rfl⟩
  · refine X_skip ?_
    refine X_seq ?_
    refine X_seq ?_
    refine X_reg ?_
    refine XR_a (op_move rfl) rfl rfl ?_
    refine XR_a (op_move rfl) rfl rfl ?_
    refine XR_a (op_gtr rfl rfl) rfl rfl ?_
    refine XR_nil ?_
    refine X_if rfl (fun h => ?_) (fun h => ?_)
    · refine X_seq ?_
      refine X_reg ?_
      refine XR_a (op_assign rfl) rfl rfl ?_
      refine XR_nil ?_
      refine X_ret (.cons (.tmp rfl) .nil) ?_
      unfold cmpI
      exact ⟨by rw [if_neg (by omega), if_pos (by omega)]; rfl, rfl⟩
    · refine X_skip ?_
      refine X_seq ?_
      refine X_reg ?_
      refine XR_a (op_assign rfl) rfl rfl ?_
      refine XR_nil ?_
      refine X_ret (.cons (.tmp rfl) .nil) ?_
      unfold cmpI
      exact ⟨by rw [if_neg (by omega), if_neg (by omega)]; rfl, rfl⟩
end Go.Bn
