/- The contract of bindleref31.Take. -/
import Derived.Test.YtpkhilbgkkjebaaScript9
set_option linter.unusedVariables false
set_option linter.unusedSimpArgs false
set_option maxHeartbeats 4000000
set_option maxRecDepth 20000
namespace Go.Bn
open Go Proofs

/-- Of each step the data can be read in h, and the entries' row lies in L. -/
def subR (h : Heap) (xs : List (Stp × Value × Value)) (L : List Res) : Prop :=
  ∀ x ∈ xs, (∃ A n c, x.2.1 = .slice A n c ∧ x.1.data.length = n ∧ Rd h A (x.1.data.map byteV)) ∧ row 4 1 x.2.2 (x.1.keep.map Value.bool) ∈ L
theorem St.mem {B : Nat} {h0 hp : Heap} {L : List Res} (s : St B h0 hp L) {r : Res} (h : r ∈ L) : ∃ S, r.P hp S ∧ ∀ k, S k → B ≤ k := by
  obtain ⟨j, hj, e⟩ := List.getElem_of_mem h
  exact s.at_ (j := j) (by rw [List.getElem?_eq_getElem hj, e])
theorem row_mem {B : Nat} {h0 hp : Heap} {L : List Res} (s : St B h0 hp L) {e sz : Nat} {v : Value} {vs : List Value} (h : row e sz v vs ∈ L) : ∃ A n c, v = .slice A n c ∧ vs.length = n * sz ∧ n ≤ c ∧ c ≤ maxLen ∧ Rd hp A vs := by
  obtain ⟨S, hS, _⟩ := s.mem h
  exact RowAt.rd hS
theorem subR.ok {B : Nat} {h h0 hp : Heap} {xs : List (Stp × Value × Value)} {L : List Res} (hs : subR h xs L) (hx : Ext h hp) (st : St B h0 hp L) : ∀ x ∈ xs, okX hp x := by
  intro x hxm
  obtain ⟨⟨A, n, c, e, hl, hr⟩, hk⟩ := hs x hxm
  obtain ⟨A2, n2, c2, e2, hl2, _, _, hr2⟩ := row_mem st hk
  exact ⟨⟨A, n, c, e, hl, hr.ext hx⟩, A2, n2, c2, e2, by simpa using hl2, hr2⟩
theorem subIn.ok {B : Nat} {h0 hp : Heap} {xs : List (Stp × Value × Value)} {L : List Res} (hs : subIn xs L) (st : St B h0 hp L) : ∀ x ∈ xs, okX hp x := by
  intro x hxm
  have hk := hs x hxm
  obtain ⟨A, n, c, e, hl, _, _, hr⟩ := row_mem st (hk _ List.mem_cons_self)
  obtain ⟨A2, n2, c2, e2, hl2, _, _, hr2⟩ := row_mem st (hk _ (List.mem_cons_of_mem _ List.mem_cons_self))
  exact ⟨⟨A, n, c, e, by simpa using hl, hr⟩, A2, n2, c2, e2, by simpa using hl2, hr2⟩

theorem take31_ref {m c : Nat} {A : Option Addr} {l : List UInt8} {hb h0 : Heap} (hrb : Rd hb A (l.map byteV)) (hxb : Ext hb h0) (hl : l.length = m) (hm : m ≤ 1048576) (hmc : m ≤ c) :
    Ret Try.prog 9 [.slice A m c] h0 fun v h' => ∃ w xs L, v = retVal [w, nV (takeS31 l).2] ∧ xs.map (·.1) = (takeS31 l).1 ∧ subR hb xs L ∧ St h0.size h0 h' (row 37 7 w (xs.flatMap stX) :: L) := by
  have hr := hrb.ext hxb
  have hT : takeS31 l = if l.length < 2 then ([], 2) else if 200 < lv l 0 2 then ([], 14) else goS l (lv l 0 2) 2 [] := rfl
  obtain ⟨T, hTe⟩ : ∃ T, takeS31 l = T := ⟨_, rfl⟩
  rw [hTe] at hT ⊢
  have bad : ∀ e, T = ([], e) → ∀ h', St h0.size h0 h' [] → ∃ w xs L, retVal [.slice none 0 0, nV e] = retVal [w, nV T.2] ∧ xs.map (·.1) = T.1 ∧ subR hb xs L ∧ St h0.size h0 h' (row 37 7 w (xs.flatMap stX) :: L) :=
    fun e he h' st => ⟨_, [], [], by rw [he], by rw [he]; rfl, fun x hx => by simp at hx, st.nilrow 37 7⟩
  refine ret_of_X Try.func9 rfl rfl fun w0 hw0 => ?_
  simp only [argE, Nat.zero_add, Nat.reduceAdd]
  have st := St.start h0
  refine X_seq ?_
  refine X_reg ?_
  refine XR_a (op_assign rfl) rfl rfl ?_
  refine XR_a (op_assign rfl) rfl rfl ?_
  refine XR_nil ?_
  refine X_seq ?_
  refine X_seq ?_
  refine X_reg ?_
  refine XR_a (op_move rfl) rfl rfl ?_
  refine XR_a (op_len rfl rfl rfl) rfl rfl ?_
  refine XR_a (op_lss rfl rfl) rfl rfl ?_
  refine XR_nil ?_
  refine X_if rfl (fun h => ?_) (fun h => ?_)
  · refine X_seq ?_
    refine X_reg ?_
    refine XR_a (op_assign rfl) rfl rfl ?_
    refine XR_a (op_assign rfl) rfl rfl ?_
    refine XR_nil ?_
    refine X_ret (.cons (.tmp rfl) (.cons (.tmp rfl) .nil)) ?_
    exact bad 2 (by rw [hT, if_pos (by omega)]) _ st
  · refine X_skip ?_
    refine X_seq ?_
    refine X_reg ?_
    refine XR_a (op_move rfl) rfl rfl ?_
    refine XR_wa (opl_call (num16_ref (w := 2) (k := 2) (a := 0) rfl hr hl (by omega) (by omega)) rfl (by kernel_rfl)) rfl rfl rfl ?_
    rintro _ _ ⟨rfl, rfl⟩
    rw [if_neg (by omega)] at hT
    refine XR_a (op_assign rfl) rfl rfl ?_
    refine XR_nil ?_
    refine X_seq ?_
    refine X_seq ?_
    refine X_reg ?_
    refine XR_a (op_move rfl) rfl rfl ?_
    refine XR_a (op_gtr rfl rfl) rfl rfl ?_
    refine XR_nil ?_
    refine X_if rfl (fun h => ?_) (fun h => ?_)
    · refine X_seq ?_
      refine X_reg ?_
      refine XR_a (op_assign rfl) rfl rfl ?_
      refine XR_a (op_assign rfl) rfl rfl ?_
      refine XR_nil ?_
      refine X_ret (.cons (.tmp rfl) (.cons (.tmp rfl) .nil)) ?_
      exact bad 14 (by rw [hT, if_pos (by omega)]) _ st
    · refine X_skip ?_
      refine X_seq ?_
      refine X_reg ?_
      refine XR_a (op_assign rfl) rfl rfl ?_
      refine XR_nil ?_
      refine X_seq ?_
      refine X_reg ?_
      refine XR_a (op_assign rfl) rfl rfl ?_
      refine XR_nil ?_
      refine X_seq ?_
      refine X_seq ?_
      refine X_reg ?_
      refine XR_a (op_assign rfl) rfl rfl ?_
      refine XR_nil ?_
      refine X_block ?_
      have hlv2 := lv2 l 0
      obtain ⟨n, hn⟩ : ∃ n, lv l 0 2 = n := ⟨_, rfl⟩
      rw [hn] at hT hlv2
      rw [hn]
      rw [if_neg (by omega)] at hT
      replace st := st.nilrow 37 7
      refine X_loop (fun s => n - s.1) (fun s => [(0, .slice A m c), (4, nV n), (5, s.2.2.2.2), (6, nV s.2.1), (7, nV s.1)])
        (fun (s : Nat × Nat × List (Stp × Value × Value) × List Res × Value) hp => s.1 ≤ n ∧ s.2.1 ≤ m ∧ s.2.2.1.length = s.1 ∧ goS l (n - s.1) s.2.1 (s.2.2.1.map (·.1)) = T ∧ subR hb s.2.2.1 s.2.2.2.1 ∧
          St h0.size h0 hp (row 37 7 s.2.2.2.2 (s.2.2.1.flatMap stX) :: s.2.2.2.1))
        (0, 2, [], [], _) (.cons rfl (.cons rfl (.cons rfl (.cons rfl (.cons rfl (.nil _)))))) ⟨Nat.zero_le _, by simp only; omega, rfl, hT.symm, fun x hx => by simp at hx, st⟩ ?_
      clear st
      rintro ⟨i, a, xs, L, v⟩ hp ⟨hi, ha, hxl, hg, hsub, st⟩
      simp only at hi ha hxl hg hsub st ⊢
      refine X_seq ?_
      refine X_seq ?_
      refine X_reg ?_
      refine XR_a (op_move rfl) rfl rfl ?_
      refine XR_a (op_move rfl) rfl rfl ?_
      refine XR_a (op_lss rfl rfl) rfl rfl ?_
      refine XR_nil ?_
      refine X_if rfl (fun h => ?_) (fun h => ?_)
      · rw [show n - i = (n - i - 1) + 1 by omega, goS] at hg
        have hgb : oneE l a ≠ 0 → T = ([], oneE l a) := fun h => by rw [← hg, if_pos h]
        refine X_skip ?_
        refine X_seq ?_
        refine X_block ?_
        refine X_seq ?_
        refine X_reg ?_
        refine XR_a (op_move rfl) rfl rfl ?_
        refine XR_a (op_move rfl) rfl rfl ?_
        refine XR_wa (opl_call (step31_ref (a := a) hrb (Ext.trans hxb st.low) hl hm hmc ha) rfl (by kernel_rfl)) rfl rfl rfl ?_
        rintro _ hp5 ⟨s, dv, kv, x, L5, rfl, ⟨ho1, ho2⟩, hz, st5⟩
        replace st := st.join st5
        refine XR_a (op_move rfl) rfl rfl ?_
        refine XR_a (op_extract rfl rfl) rfl rfl ?_
        refine XR_a (op_extract rfl rfl) rfl rfl ?_
        refine XR_a (op_extract rfl rfl) rfl rfl ?_
        refine XR_wa (opl_new rfl) rfl rfl rfl ?_
        rintro _ hp ⟨p6, rfl, hnew⟩
        replace st := st.new hnew
        refine XR_wn (opl_store_whole (us := stC s dv kv) st 0 rfl rfl rfl rfl rfl (one_stC s ho1 ho2) rfl) rfl rfl fun _ hp st => ?_
        simp only [List.set_cons_zero] at st
        refine XR_a (op_assign rfl) rfl rfl ?_
        refine XR_a (op_assign rfl) rfl rfl ?_
        refine XR_nil ?_
        refine X_seq ?_
        refine X_seq ?_
        refine X_reg ?_
        refine XR_a (op_move rfl) rfl rfl ?_
        refine XR_a (op_neq rfl rfl) rfl rfl ?_
        refine XR_nil ?_
        refine X_if rfl (fun h => ?_) (fun h => ?_)
        · refine X_seq ?_
          refine X_reg ?_
          refine XR_a (op_move rfl) rfl rfl ?_
          refine XR_a (op_assign rfl) rfl rfl ?_
          refine XR_a (op_assign rfl) rfl rfl ?_
          refine XR_nil ?_
          refine X_ret (.cons (.tmp rfl) (.cons (.tmp rfl) .nil)) ?_
          exact bad (oneE l a) (hgb (by omega)) _ st.drop
        · refine X_skip ?_
          refine X_seq ?_
          refine X_reg ?_
          refine XR_a (op_move rfl) rfl rfl ?_
          refine XR_a (op_ldA (vs := stC s dv kv) (st.cells 0 rfl) rfl rfl rfl rfl) rfl rfl ?_
          obtain ⟨rfl, rfl, hdat, hkp⟩ := hz (by omega)
          refine XR_wa (opl_varA (us := stC (stepAt l a) dv kv) rfl rfl rfl rfl (by kernel_rfl)) rfl rfl rfl ?_
          rintro _ hp ⟨A9, rfl, hx9, hrd⟩
          replace st := st.ext hx9
          replace st := st.tail.perm (List.perm_append_comm (l₁ := L5) (l₂ := row 37 7 v (xs.flatMap stX) :: L))
          simp only [List.cons_append] at st
          refine XR_wa (opl_append st 0 rfl (hrd) (rfl) (one_stC _ ho1 ho2) (by rw [flat_length _ 7 (fun _ => rfl)]; simp [stC]; omega) rfl rfl rfl rfl rfl rfl rfl) rfl rfl rfl fun v hp st => ?_
          simp only [List.set_cons_zero, List.set_cons_succ] at st
          have e2 : xs.flatMap stX ++ stC (stepAt l a) dv kv = (xs ++ [(stepAt l a, dv, kv)]).flatMap stX := by rw [List.flatMap_append]; simp
          rw [e2] at st
          refine XR_a (op_assign rfl) rfl rfl ?_
          refine XR_nil ?_
          refine X_reg ?_
          refine XR_a (op_move rfl) rfl rfl ?_
          refine XR_a (op_assign rfl) rfl rfl ?_
          refine XR_nil ?_
          refine X_blk ?_
          refine X_reg ?_
          refine XR_a (op_move rfl) rfl rfl ?_
          first | refine XR_a (op_addN (n := 1) rfl rfl (by simp only [inK]; omega)) rfl rfl ?_ | refine XR_a (op_addI rfl rfl (by simp only [inK]; omega)) rfl rfl ?_ | refine XR_a (op_add rfl rfl) rfl rfl ?_
          refine XR_a (op_assign rfl) rfl rfl ?_
          refine XR_nil ?_
          have hes : eS l a ≤ m := by
            refine Classical.byContradiction fun h9 => ?_
            have := oneE_short (l := l) (a := a) (by omega)
            omega
          refine X_again (i + 1, eS l a, xs ++ [(stepAt l a, dv, kv)], L ++ L5, _) (.cons rfl (.cons rfl (.cons rfl (.cons rfl (.cons rfl (.nil _)))))) ⟨by simp only; omega, hes, by simp [hxl], ?_, ?_, st⟩ (by simp only; omega)
          · simp only
            rw [if_neg (by omega)] at hg
            rw [show n - (i + 1) = n - i - 1 by omega, ← hg]
            simp
          · intro x hx
            rcases List.mem_append.1 hx with h1 | h1
            · exact ⟨(hsub x h1).1, List.mem_append_left _ (hsub x h1).2⟩
            · rw [List.mem_singleton.1 h1]
              exact ⟨hdat, List.mem_append_right _ hkp⟩
      · obtain rfl : i = n := by omega
        rw [Nat.sub_self, goS] at hg
        refine X_exit rfl ?_
        refine X_seq ?_
        refine X_seq ?_
        refine X_reg ?_
        refine XR_a (op_move rfl) rfl rfl ?_
        refine XR_a (op_move rfl) rfl rfl ?_
        refine XR_a (op_len rfl rfl rfl) rfl rfl ?_
        refine XR_a (op_lss rfl rfl) rfl rfl ?_
        refine XR_nil ?_
        refine X_if rfl (fun h => ?_) (fun h => ?_)
        · refine X_seq ?_
          refine X_reg ?_
          refine XR_a (op_assign rfl) rfl rfl ?_
          refine XR_a (op_assign rfl) rfl rfl ?_
          refine XR_nil ?_
          refine X_ret (.cons (.tmp rfl) (.cons (.tmp rfl) .nil)) ?_
          exact bad 3 (by rw [← hg, if_pos (by omega)]) _ st.drop
        · refine X_skip ?_
          refine X_seq ?_
          refine X_reg ?_
          refine XR_a (op_move rfl) rfl rfl ?_
          refine XR_a (op_assign rfl) rfl rfl ?_
          refine XR_a (op_assign rfl) rfl rfl ?_
          refine XR_nil ?_
          refine X_ret (.cons (.tmp rfl) (.cons (.tmp rfl) .nil)) ?_
          rw [if_neg (by omega)] at hg
          exact ⟨v, xs, L, by rw [← hg]; rfl, by rw [← hg], hsub, st⟩
end Go.Bn
