/- The contract of script.Take. -/
import Derived.Test.YtpkhilbgkkjebaaScript4
import Derived.Test.YtpkhilbgkkjebaaFlat
import Derived.Test.YtpkhilbgkkjebaaOpsM
set_option linter.unusedVariables false
set_option linter.unusedSimpArgs false
set_option maxHeartbeats 4000000
set_option maxRecDepth 20000
namespace Go.Bn
open Go Proofs

theorem RetD.mono {P : Program} {f : FuncId} {args : List Value} {u : FrameMode} {hp : Heap} {Φ Ψ : FrameMode → Heap → Prop} (h : RetD P f args u hp Φ) (hi : ∀ u' hp', Φ u' hp' → Ψ u' hp') : RetD P f args u hp Ψ :=
  fun w hw => (h w hw).mono fun _ _ _ ⟨v, he, hI, hf⟩ => ⟨v, he, hI, hi _ _ hf⟩
/-- A step's cells, its data and entries behind it. -/
@[reducible] def stX (x : Stp × Value × Value) : List Value := stC x.1 x.2.1 x.2.2
/-- What a step's slices show. -/
def subX (x : Stp × Value × Value) : List Res := [row 5 1 x.2.1 (x.1.data.map byteV), row 4 1 x.2.2 (x.1.keep.map Value.bool)]
/-- Of each step both rows lie in L. -/
def subIn (xs : List (Stp × Value × Value)) (L : List Res) : Prop := ∀ x ∈ xs, ∀ r ∈ subX x, r ∈ L

theorem stake_spec {m c : Nat} {A : Option Addr} {l : List UInt8} {h0 : Heap} (hr : Rd h0 A (l.map byteV)) (hl : l.length = m) (hm : m ≤ 1073741824) (hmc : m ≤ c) : -- defers
    Ret Try.prog 8 [.slice A m c] h0 fun v h' => ∃ w xs L, v = retVal [w, nV (takeS31 l).2] ∧ xs.map (·.1) = (takeS31 l).1 ∧ subIn xs L ∧ St h0.size h0 h' (row 37 7 w (xs.flatMap stX) :: L) := by
  have hT : takeS31 l = if l.length < 2 then ([], 2) else if 200 < lv l 0 2 then ([], 14) else goS l (lv l 0 2) 2 [] := rfl
  obtain ⟨T, hTe⟩ : ∃ T, takeS31 l = T := ⟨_, rfl⟩
  rw [hTe] at hT ⊢
  have bad : ∀ e, T = ([], e) → ∀ h', St h0.size h0 h' [] → ∃ w xs L, retVal [.slice none 0 0, nV e] = retVal [w, nV T.2] ∧ xs.map (·.1) = T.1 ∧ subIn xs L ∧ St h0.size h0 h' (row 37 7 w (xs.flatMap stX) :: L) :=
    fun e he h' st => ⟨_, [], [], by rw [he], by rw [he]; rfl, fun x hx => by simp at hx, st.nilrow 37 7⟩
  refine retT_of_X Try.func8 rfl rfl fun w0 hw0 => ?_
  simp only [argE, Nat.zero_add, Nat.reduceAdd]
  have st := St.start h0
  refine X_seq ?_
  refine X_reg ?_
  refine XR_wa (opl_new rfl) rfl rfl rfl ?_
  rintro _ hp ⟨p2, rfl, hnew⟩
  replace st := st.new hnew
  refine XR_wa (opl_new rfl) rfl rfl rfl ?_
  rintro _ hp ⟨p3, rfl, hnew⟩
  replace st := (st.new hnew).perm (List.Perm.swap _ _ _)
  replace st : St h0.size h0 hp [pt p2 24 [.slice none 0 0], pt p3 25 [nV 0]] := st
  refine XR_nil ?_
  refine X_seq ?_
  refine X_reg ?_
  refine XR_a (op_mkFunc rfl) rfl rfl ?_
  refine XR_defer rfl rfl rfl ?_
  refine XR_nil ?_
  refine X_seq ?_
  refine X_reg ?_
  refine XR_a (op_move rfl) rfl rfl ?_
  refine XR_wa (opl_call (fnew_spec) rfl (by kernel_rfl)) rfl rfl rfl ?_
  rintro _ hp3 ⟨pr, rfl, st3⟩
  replace st := st.join st3
  simp only [List.cons_append, List.nil_append] at st
  refine XR_a (op_build (ps := [(0, .pointer (some ⟨pr, 0, none⟩))]) (cs := #[.pointer (some ⟨pr, 0, none⟩)]) rfl rfl) rfl rfl ?_
  refine XR_wa (opl_new rfl) rfl rfl rfl ?_
  rintro _ hp ⟨p4, rfl, hnew⟩
  replace st := st.new hnew
  refine XR_wn (opl_store_whole (us := [.pointer (some ⟨pr, 0, none⟩)]) st 0 rfl rfl rfl rfl rfl (by intro u hu; simp at hu; subst hu; rfl) rfl) rfl rfl fun _ hp st => ?_
  simp only [List.set_cons_zero] at st
  replace st := st.re 4 [1, 2, 3, 0] (by decide)
  simp only [List.map_cons, List.map_nil, getR] at st
  refine XR_nil ?_
  refine X_seq ?_
  refine X_reg ?_
  refine XR_a (op_ldA (vs := [.pointer (some ⟨pr, 0, none⟩)]) (st.cells 3 rfl) rfl rfl rfl rfl) rfl rfl ?_
  refine XR_wap ([(2, .pointer (some ⟨p2, 0, none⟩)), (3, .pointer (some ⟨p3, 0, none⟩))]) (opl_callP (snum_at (w := 2) (k := 2) rfl st.here (fun h' hl' => hr.ext (st.low.trans hl')) hl (by omega) (by omega)) rfl (by kernel_rfl)) rfl rfl rfl (.cons rfl (.cons rfl (.nil _))) (fun h => Bool.noConfusion h) (by rintro _ _ ⟨h1, rfl, h3⟩; refine XP_D _ (by kernel_rfl) (RetD.mono (take1_pan (st.trans h3).here) ?_); rintro u' hp9 ⟨hset, st9⟩; have st9' := (st.trans h3).trans st9; exact ⟨hset, _, .cons (RV_one rfl rfl (st9'.cell 0 (i := 0) rfl rfl)) (.cons (RV_one rfl rfl (st9'.cell 1 (i := 0) rfl rfl)) .nil), bad 2 (by rw [hT, if_pos (by omega)]) _ st9'.drop⟩) ?_
  rintro _ hp5 ⟨hf, rfl, st5⟩
  replace st := st.trans st5
  rw [if_neg (by omega)] at hT
  refine XR_a (op_assign rfl) rfl rfl ?_
  refine XR_nil ?_
  refine X_seq ?_
  refine X_seq ?_
  refine X_reg ?_
  refine XR_a (op_move rfl) rfl rfl ?_
  refine XR_a (op_gtr rfl rfl) rfl rfl ?_
  refine XR_nil ?_
  refine X_if rfl (fun h => ?_) (fun h => ?_)
  · refine X_seq ?_
    refine X_reg ?_
    refine XR_wn (opl_store_pt st 1 rfl rfl rfl rfl rfl (rfl)) rfl rfl fun _ hp st => ?_
    simp only [List.set_cons_zero, List.set_cons_succ] at st
    refine XR_wn (opl_store_pt st 2 rfl rfl rfl rfl rfl (rfl)) rfl rfl fun _ hp st => ?_
    simp only [List.set_cons_zero, List.set_cons_succ] at st
    refine XR_nil ?_
    refine X_retD [(2, .pointer (some ⟨p2, 0, none⟩)), (3, .pointer (some ⟨p3, 0, none⟩))] (.cons rfl (.cons rfl (.nil _))) (by kernel_rfl) ((take1_ret p2 p3 _).mono ?_)
    rintro _ hp9 ⟨rfl, rfl⟩
    exact ⟨rfl, _, .cons (RV_one rfl rfl (st.cell 1 (i := 0) rfl rfl)) (.cons (RV_one rfl rfl (st.cell 2 (i := 0) rfl rfl)) .nil), bad 14 (by rw [hT, if_pos (by omega)]) _ st.drop⟩
  · refine X_skip ?_
    refine X_seq ?_
    refine X_seq ?_
    refine X_reg ?_
    refine XR_a (op_move rfl) rfl rfl ?_
    refine XR_a (op_move rfl) rfl rfl ?_
    refine XR_nil ?_
    refine X_block ?_
    have hlv2 := lv2 l 0
    obtain ⟨n, hn⟩ : ∃ n, lv l 0 2 = n := ⟨_, rfl⟩
    rw [hn] at hT hlv2
    rw [hn]
    rw [if_neg (by omega)] at hT
    replace st := (st.nilrow 37 7).re 5 [1, 2, 3, 4, 0] (by decide)
    simp only [List.map_cons, List.map_nil, getR] at st
    refine X_loop (fun s => n - s.1) (fun s => [(2, .pointer (some ⟨p2, 0, none⟩)), (3, .pointer (some ⟨p3, 0, none⟩)), (4, .pointer (some ⟨p4, 0, none⟩)), (16, nV n), (17, nV s.1)])
      (fun (s : Nat × Nat × List (Stp × Value × Value) × List Res × Value) hp => s.1 ≤ n ∧ s.2.1 ≤ m ∧ s.2.2.1.length = s.1 ∧ goS l (n - s.1) s.2.1 (s.2.2.1.map (·.1)) = T ∧ subIn s.2.2.1 s.2.2.2.1 ∧
        St h0.size h0 hp (fdG pr A m c s.2.1 false :: pt p2 24 [s.2.2.2.2] :: pt p3 25 [nV 0] :: pt p4 54 [.pointer (some ⟨pr, 0, none⟩)] :: row 37 7 s.2.2.2.2 (s.2.2.1.flatMap stX) :: s.2.2.2.1))
      (0, 2, [], [], _) (.cons rfl (.cons rfl (.cons rfl (.cons rfl (.cons rfl (.nil _)))))) ⟨Nat.zero_le _, by simp only; omega, rfl, hT.symm, fun x hx => by simp at hx, st⟩ ?_
    clear st
    rintro ⟨i, a, xs, L, v⟩ hp ⟨hi, ha, hxl, hg, hsub, st⟩
    simp only at hi ha hxl hg hsub st ⊢
    refine X_seq ?_
    refine X_reg ?_
    refine XR_a (op_lss rfl rfl) rfl rfl ?_
    refine XR_nil ?_
    refine X_seq ?_
    refine X_if rfl (fun h => ?_) (fun h => ?_)
    · refine X_skip ?_
      refine X_seq ?_
      refine X_block ?_
      refine X_seq ?_
      refine X_reg ?_
      refine XR_a (op_ldA (vs := [.pointer (some ⟨pr, 0, none⟩)]) (st.cells 3 rfl) rfl rfl rfl rfl) rfl rfl ?_
      rw [show n - i = (n - i - 1) + 1 by omega, goS] at hg
      have hgb : oneE l a ≠ 0 → T = ([], oneE l a) := fun h => by rw [← hg, if_pos h]
      refine XR_wap ([(2, .pointer (some ⟨p2, 0, none⟩)), (3, .pointer (some ⟨p3, 0, none⟩))]) (opl_callP (sone_spec (a := a) st.here (fun h' hl' => hr.ext (st.low.trans hl')) hl (by omega) hmc ha) rfl (by kernel_rfl)) rfl rfl rfl (.cons rfl (.cons rfl (.nil _))) (fun h => Bool.noConfusion h) (by rintro _ _ ⟨h1, rfl, h3⟩; refine XP_D _ (by kernel_rfl) (RetD.mono (take1_pan (st.trans h3).here) ?_); rintro u' hp9 ⟨hset, st9⟩; have st9' := (st.trans h3).trans st9; exact ⟨hset, _, .cons (RV_one rfl rfl (st9'.cell 0 (i := 0) rfl rfl)) (.cons (RV_one rfl rfl (st9'.cell 1 (i := 0) rfl rfl)) .nil), bad 2 (by rw [← hg, h1]; rfl) _ st9'.drop⟩) ?_
      rintro _ hp5 ⟨dv, kv, s, dv', kv', hne2, hes, rfl, ⟨ho1, ho2⟩, hz, st5⟩
      replace st := st.trans st5
      refine XR_a (op_move rfl) rfl rfl ?_
      refine XR_a (op_extract rfl rfl) rfl rfl ?_
      refine XR_a (op_extract rfl rfl) rfl rfl ?_
      refine XR_wa (opl_new rfl) rfl rfl rfl ?_
      rintro _ hp ⟨p6, rfl, hnew⟩
      replace st := st.new hnew
      refine XR_wn (opl_store_whole (us := stC s dv' kv') st 0 rfl rfl rfl rfl rfl (one_stC s ho1 ho2) rfl) rfl rfl fun _ hp st => ?_
      simp only [List.set_cons_zero] at st
      refine XR_a (op_assign rfl) rfl rfl ?_
      refine XR_nil ?_
      refine X_seq ?_
      refine X_seq ?_
      refine X_reg ?_
      refine XR_a (op_move rfl) rfl rfl ?_
      refine XR_a (op_neq rfl rfl) rfl rfl ?_
      refine XR_nil ?_
      refine X_if rfl (fun h => ?_) (fun h => ?_)
      · refine X_seq ?_
        refine X_reg ?_
        refine XR_a (op_move rfl) rfl rfl ?_
        refine XR_wn (opl_store_pt st 4 rfl rfl rfl rfl rfl (rfl)) rfl rfl fun _ hp st => ?_
        simp only [List.set_cons_zero, List.set_cons_succ] at st
        refine XR_wn (opl_store_pt st 5 rfl rfl rfl rfl rfl (rfl)) rfl rfl fun _ hp st => ?_
        simp only [List.set_cons_zero, List.set_cons_succ] at st
        refine XR_nil ?_
        refine X_retD [(2, .pointer (some ⟨p2, 0, none⟩)), (3, .pointer (some ⟨p3, 0, none⟩))] (.cons rfl (.cons rfl (.nil _))) (by kernel_rfl) ((take1_ret p2 p3 _).mono ?_)
        rintro _ hp9 ⟨rfl, rfl⟩
        exact ⟨rfl, _, .cons (RV_one rfl rfl (st.cell 4 (i := 0) rfl rfl)) (.cons (RV_one rfl rfl (st.cell 5 (i := 0) rfl rfl)) .nil), bad (oneE l a) (hgb (by omega)) _ st.drop⟩
      · refine X_skip ?_
        refine X_reg ?_
        refine XR_a (op_ld (st.cell 4 (i := 0) rfl rfl) rfl rfl rfl) rfl rfl ?_
        refine XR_a (op_ldA (vs := stC s dv' kv') (st.cells 0 rfl) rfl rfl rfl rfl) rfl rfl ?_
        obtain ⟨rfl, rfl, rfl⟩ := hz (by omega)
        refine XR_wa (opl_varA (us := stC (stepAt l a) dv' kv') rfl rfl rfl rfl (by kernel_rfl)) rfl rfl rfl ?_
        rintro _ hp ⟨A9, rfl, hx9, hrd⟩
        replace st := st.ext hx9
        refine XR_wa (opl_append st 7 rfl (hrd) (rfl) (one_stC _ ho1 ho2) (by rw [flat_length _ 7 (fun _ => rfl)]; simp [stC]; omega) rfl rfl rfl rfl rfl rfl rfl) rfl rfl rfl fun v hp st => ?_
        simp only [List.set_cons_zero, List.set_cons_succ] at st
        have e2 : xs.flatMap stX ++ stC (stepAt l a) dv' kv' = (xs ++ [(stepAt l a, dv', kv')]).flatMap stX := by rw [List.flatMap_append]; simp
        rw [e2] at st
        obtain ⟨A7, n7, c7, rfl, _⟩ := st.row 7 rfl
        refine XR_wn (opl_store_pt st 4 rfl rfl rfl rfl rfl (rfl)) rfl rfl fun _ hp st => ?_
        simp only [List.set_cons_zero, List.set_cons_succ] at st
        refine XR_nil ?_
        refine X_blk ?_
        refine X_reg ?_
        first | refine XR_a (op_addN (n := 1) rfl rfl (by simp only [inK]; omega)) rfl rfl ?_ | refine XR_a (op_addI rfl rfl (by simp only [inK]; omega)) rfl rfl ?_ | refine XR_a (op_add rfl rfl) rfl rfl ?_
        refine XR_a (op_move rfl) rfl rfl ?_
        refine XR_nil ?_
        replace st := (St.reF [_, _, _, _, _, _, _, _] 8 st [0, 1, 4, 5, 6, 7, 2, 3] (by decide)).tail
        simp only [List.map_cons, List.map_nil, getR, List.cons_append, List.nil_append] at st
        refine X_again (i + 1, eS l a, xs ++ [(stepAt l a, dv', kv')], _ :: _ :: L, _) (.cons rfl (.cons rfl (.cons rfl (.cons rfl (.cons rfl (.nil _)))))) ⟨by simp only; omega, hes, by simp [hxl], ?_, ?_, st⟩ (by simp only; omega)
        · simp only
          rw [if_neg (by omega)] at hg
          rw [show n - (i + 1) = n - i - 1 by omega, ← hg]
          simp
        · intro x hx r hr9
          rcases List.mem_append.1 hx with h1 | h1
          · exact List.mem_cons_of_mem _ (List.mem_cons_of_mem _ (hsub x h1 r hr9))
          · rw [List.mem_singleton.1 h1] at hr9
            simp only [subX, List.mem_cons, List.not_mem_nil, or_false] at hr9
            rcases hr9 with rfl | rfl
            · exact List.mem_cons_self
            · exact List.mem_cons_of_mem _ List.mem_cons_self
    · refine X_exit rfl ?_
      refine X_seq ?_
      refine X_seq ?_
      obtain rfl : i = n := by omega
      rw [Nat.sub_self, goS] at hg
      refine X_reg ?_
      first | refine XR_a (op_field0 rfl rfl) rfl rfl ?_ | refine XR_a (op_fieldn rfl rfl) rfl rfl ?_
      refine XR_a (op_ld (st.cell 3 (i := 0) rfl rfl) rfl rfl rfl) rfl rfl ?_
      refine XR_wa (opl_call (fleft_spec (st.cell 0 rfl rfl) (st.cell 0 rfl rfl) (by omega) ha) rfl (by kernel_rfl)) rfl rfl rfl ?_
      rintro _ _ ⟨rfl, rfl⟩
      refine XR_a (op_gtr rfl rfl) rfl rfl ?_
      refine XR_nil ?_
      refine X_if rfl (fun h => ?_) (fun h => ?_)
      · refine X_seq ?_
        refine X_reg ?_
        refine XR_wn (opl_store_pt st 1 rfl rfl rfl rfl rfl (rfl)) rfl rfl fun _ hp st => ?_
        simp only [List.set_cons_zero, List.set_cons_succ] at st
        refine XR_wn (opl_store_pt st 2 rfl rfl rfl rfl rfl (rfl)) rfl rfl fun _ hp st => ?_
        simp only [List.set_cons_zero, List.set_cons_succ] at st
        refine XR_nil ?_
        refine X_retD [(2, .pointer (some ⟨p2, 0, none⟩)), (3, .pointer (some ⟨p3, 0, none⟩))] (.cons rfl (.cons rfl (.nil _))) (by kernel_rfl) ((take1_ret p2 p3 _).mono ?_)
        rintro _ hp9 ⟨rfl, rfl⟩
        exact ⟨rfl, _, .cons (RV_one rfl rfl (st.cell 1 (i := 0) rfl rfl)) (.cons (RV_one rfl rfl (st.cell 2 (i := 0) rfl rfl)) .nil), bad 3 (by rw [← hg, if_pos (by omega)]) _ st.drop⟩
      · refine X_skip ?_
        refine X_seq ?_
        obtain ⟨A7, n7, c7, rfl, _⟩ := st.row 4 rfl
        refine X_reg ?_
        refine XR_a (op_ld (st.cell 1 (i := 0) rfl rfl) rfl rfl rfl) rfl rfl ?_
        refine XR_wn (opl_store_pt st 1 rfl rfl rfl rfl rfl (rfl)) rfl rfl fun _ hp st => ?_
        simp only [List.set_cons_zero, List.set_cons_succ] at st
        refine XR_wn (opl_store_pt st 2 rfl rfl rfl rfl rfl (rfl)) rfl rfl fun _ hp st => ?_
        simp only [List.set_cons_zero, List.set_cons_succ] at st
        refine XR_nil ?_
        refine X_retD [(2, .pointer (some ⟨p2, 0, none⟩)), (3, .pointer (some ⟨p3, 0, none⟩))] (.cons rfl (.cons rfl (.nil _))) (by kernel_rfl) ((take1_ret p2 p3 _).mono ?_)
        rintro _ hp9 ⟨rfl, rfl⟩
        rw [if_neg (by omega)] at hg
        refine ⟨rfl, _, .cons (RV_one rfl rfl (st.cell 1 (i := 0) rfl rfl)) (.cons (RV_one rfl rfl (st.cell 2 (i := 0) rfl rfl)) .nil), _, xs, L, by rw [← hg]; rfl, by rw [← hg], hsub, st.tail.tail.tail.tail⟩
end Go.Bn
