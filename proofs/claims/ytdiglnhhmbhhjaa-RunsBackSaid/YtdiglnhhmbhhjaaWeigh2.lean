/- The contracts of the iterators that weigh.Lengths goes through. -/
import Derived.Test.YtdiglnhhmbhhjaaWeigh
import Derived.Test.YtdiglnhhmbhhjaaRng
set_option linter.unusedVariables false
set_option linter.unusedSimpArgs false
set_option maxHeartbeats 4000000
set_option maxRecDepth 20000
namespace Go.Bn
open Go Proofs

/-- Rows, each of one's own. -/
def rowsR (e sz : Nat) : List (Value × List Value) → Res
  | [] => emp
  | x :: L => starR (Bn.row e sz x.1 x.2) (rowsR e sz L)
theorem rowsR_at {e sz : Nat} {x : Value × List Value} {h : Heap} : ∀ {L : List (Value × List Value)} {S : Nat → Prop}, (rowsR e sz L).P h S → x ∈ L → ∃ A n c, x.1 = .slice A n c ∧ x.2.length = n * sz ∧ n ≤ c ∧ c ≤ maxLen ∧ Rd h A x.2
  | y :: L, S, hp, hx => by
    obtain ⟨S1, S2, h1, h2, _⟩ := hp
    rcases List.mem_cons.1 hx with rfl | hx
    · exact RowAt.rd h1
    · exact rowsR_at h2 hx
theorem St.rowsAt {B e sz : Nat} {h0 hp : Heap} {rs : List Res} (s : St B h0 hp rs) (j : Nat) {L : List (Value × List Value)} {x : Value × List Value} (hj : rs[j]? = some (rowsR e sz L)) (hx : x ∈ L) :
    ∃ A n c, x.1 = .slice A n c ∧ x.2.length = n * sz ∧ n ≤ c ∧ c ≤ maxLen ∧ Rd hp A x.2 := by
  obtain ⟨S, h, _⟩ := s.at_ hj
  exact rowsR_at h hx

theorem rows_spec {n c m d : Nat} {A B : Option Addr} {h0 : Heap} : Ret Try.prog 72 [.slice A n c, .slice B m d] h0 fun v h' => ∃ p q, v = .func (.func 112) #[] #[.pointer (some ⟨p, 0, none⟩), .pointer (some ⟨q, 0, none⟩)] ∧ St h0.size h0 h' [pt q 49 [.slice B m d], pt p 49 [.slice A n c]] := by
  refine ret_of_X Try.func72 rfl rfl fun w0 hw0 => ?_
  simp only [argE, Nat.zero_add, Nat.reduceAdd]
  have st := St.start h0
  refine X_seq ?_
  refine X_reg ?_
  refine XR_wa (opl_bx rfl rfl) rfl rfl rfl ?_
  rintro _ hp ⟨p, rfl, hnew⟩
  replace st := st.new hnew
  refine XR_wa (opl_bx rfl rfl) rfl rfl rfl ?_
  rintro _ hp ⟨q, rfl, hnew⟩
  replace st := st.new hnew
  refine XR_a (op_assign rfl) rfl rfl ?_
  refine XR_nil ?_
  refine X_seq ?_
  refine X_reg ?_
  refine XR_a (op_mkFunc rfl) rfl rfl ?_
  refine XR_a (op_assign rfl) rfl rfl ?_
  refine XR_nil ?_
  refine X_ret (.cons (.tmp rfl) .nil) ?_
  exact ⟨_, _, rfl, st⟩

theorem rows_iter {B y p q n c m d : Nat} {A A2 : Option Addr} {ws sy : List Nat} {F : List Res} {h0 : Heap} (JR : List Value → List Res)
    (st0 : St B h0 h0 (pt q 49 [.slice A2 m d] :: pt p 49 [.slice A n c] :: Bn.row 3 1 (.slice A2 m d) (sy.map nV) :: (JR [] ++ F)))
    (hr : ∀ h', Low B h0 h' → Rd h' A (ws.map nV)) (hl : ws.length = n) (hsy : ∀ s ∈ sy, s < n) (hm : sy.length ≤ 65536) (hw : ∀ s ∈ sy, wkey ws s ≤ 1073741824)
    (hround : ∀ (s : List Value) (v : Value) (F' : List Res) (h : Heap), Low B h0 h → s.length ≤ 14 → Value.one v = true → St B h h (JR s ++ F') → RRet Try.prog y [v] h fun u h' => u = .bool true ∧ St B h h' (JR (s ++ [v]) ++ F')) :
    Ret Try.prog 112 [.func (.yield y) #[] #[], .pointer (some ⟨p, 0, none⟩), .pointer (some ⟨q, 0, none⟩)] h0 fun _ h' => ∃ (vs : List Value) (L : List (Value × List Value)), vs.length = 15 ∧ (∀ j, j < 15 → (vs.getD j (.slice none 0 0), (rowE (sy.map (wkey ws)) (j + 1)).flatMap eC) ∈ L) ∧
      St B h0 h' (JR vs ++ (rowsR 110 2 L :: Bn.row 3 1 (.slice A2 m d) (sy.map nV) :: F)) := by
  have hml : sy.length = m := by
    obtain ⟨_, _, _, he, hl2, _⟩ := st0.row 2 rfl
    cases he; simpa using hl2
  have hbd : ∀ j, j ≤ 15 → ∀ e ∈ rowE (sy.map (wkey ws)) j, e.1 ≤ 1073741824 * 2 ^ j := by
    intro j
    induction j with
    | zero => intro _ e he; simp [rowE] at he
    | succ j ih =>
      intro hj e he
      rw [rowE, List.mem_merge] at he
      have hp : 2 ^ (j + 1) = 2 * 2 ^ j := by rw [Nat.pow_succ, Nat.mul_comm]
      have hp1 : 0 < 2 ^ j := Nat.pow_pos (by omega)
      rcases he with he | he
      · simp only [itemsE, List.mem_map, List.mem_range] at he
        obtain ⟨i, hi, rfl⟩ := he
        have hi' : i < sy.length := by simpa using hi
        have := hw _ (List.getElem_mem hi')
        have e : (sy.map (wkey ws)).getD i 0 = wkey ws sy[i] := by simp [List.getD, hi']
        simp only [e]
        have : 1073741824 * 1 ≤ 1073741824 * 2 ^ (j + 1) := Nat.mul_le_mul_left _ (by omega)
        omega
      · obtain ⟨u, v, hu, hv, rfl⟩ := pairsE_mem he
        have h1 := ih (by omega) u hu
        have h2 := ih (by omega) v hv
        simp only
        rw [hp, Nat.mul_left_comm]; omega
  refine ret_of_X Try.func112 rfl rfl fun w0 hw0 => ?_
  simp only [argE, Nat.zero_add, Nat.reduceAdd]
  refine X_seq ?_
  refine X_reg ?_
  refine XR_a (op_assign rfl) rfl rfl ?_
  refine XR_nil ?_
  refine X_seq ?_
  refine X_reg ?_
  refine XR_a (op_move rfl) rfl rfl ?_
  refine XR_nil ?_
  refine X_block ?_
  refine X_loop (fun s => 15 - s.1) (fun s => [(0, .func (.yield y) #[] #[]), (1, .pointer (some ⟨p, 0, none⟩)), (2, .pointer (some ⟨q, 0, none⟩)), (4, s.2.1), (5, nV s.1)])
    (fun (s : Nat × Value × List Value × List (Value × List Value)) hp => s.1 ≤ 15 ∧ s.2.2.1.length = s.1 ∧ (∀ j, j < s.1 → (s.2.2.1.getD j (.slice none 0 0), (rowE (sy.map (wkey ws)) (j + 1)).flatMap eC) ∈ s.2.2.2) ∧ ((s.1 = 0 ∧ s.2.1 = .slice none 0 0) ∨ (s.2.1, (rowE (sy.map (wkey ws)) s.1).flatMap eC) ∈ s.2.2.2) ∧
      St B h0 hp (rowsR 110 2 s.2.2.2 :: pt q 49 [.slice A2 m d] :: pt p 49 [.slice A n c] :: Bn.row 3 1 (.slice A2 m d) (sy.map nV) :: (JR s.2.2.1 ++ F)))
    (0, .slice none 0 0, [], []) (.cons rfl (.cons rfl (.cons rfl (.cons rfl (.cons rfl (.nil _)))))) ⟨by simp only; omega, rfl, fun j h => by simp only at h; omega, .inl ⟨rfl, rfl⟩, St.emp.2 st0⟩ ?_
  rintro ⟨j, v, vs, L⟩ hp ⟨hj, hvs, hL, hv, st⟩
  simp only at hj hvs hL hv st ⊢
  refine X_seq ?_
  refine X_reg ?_
  refine XR_a (op_lss rfl rfl) rfl rfl ?_
  refine XR_nil ?_
  refine X_seq ?_
  refine X_if rfl (fun h => ?_) (fun h => ?_)
  · obtain ⟨A5, n5, c5, rfl, hn5, hr5⟩ : ∃ A5 n5 c5, v = .slice A5 n5 c5 ∧ (rowE (sy.map (wkey ws)) j).length = n5 ∧ Rd hp A5 ((rowE (sy.map (wkey ws)) j).flatMap eC) := by
      rcases hv with ⟨rfl, rfl⟩ | hv
      · exact ⟨_, _, _, rfl, rfl, Rd.nil _ _⟩
      · obtain ⟨A5, n5, c5, e1, e2, _, _, e3⟩ := st.rowsAt 0 rfl hv
        rw [flat_length _ 2 (fun _ => rfl)] at e2
        exact ⟨A5, n5, c5, e1, by omega, e3⟩
    have hrs := (st.rdS 3 rfl).2
    have hb5 := rowE_bd (sy.map (wkey ws)) j
    rw [List.length_map] at hb5
    have hp15 : 2 ^ j ≤ 32768 := Nat.le_trans (Nat.pow_le_pow_right (n := 2) (by omega) (show j ≤ 15 by omega)) (by decide)
    refine X_skip ?_
    refine X_seq ?_
    refine X_block ?_
    refine X_seq ?_
    refine X_reg ?_
    refine XR_a (op_ld (st.cell 2 (i := 0) rfl rfl) rfl rfl rfl) rfl rfl ?_
    refine XR_a (op_ld (st.cell 1 (i := 0) rfl rfl) rfl rfl rfl) rfl rfl ?_
    refine XR_a (op_move rfl) rfl rfl ?_
    refine XR_wa (opl_call (next_spec (hr hp st.low) hl hrs hml hr5 hn5 hsy (by omega) (by omega) (fun e he => by have h1 := hbd j hj e he; have h2 : 1073741824 * 2 ^ j ≤ 1073741824 * 32768 := Nat.mul_le_mul_left _ hp15; omega) (rowE_has j)) rfl (by kernel_rfl)) rfl rfl rfl ?_
    rintro v2 hp2 st2
    obtain ⟨A6, n6, c6, rfl, _⟩ := st2.row 0 rfl
    replace st := St.star.2 (st.join st2)
    have st3 := st.perm (List.perm_append_comm_assoc [rowsR 110 2 ((.slice A6 n6 c6, (rowE (sy.map (wkey ws)) (j + 1)).flatMap eC) :: L), pt q 49 [.slice A2 m d], pt p 49 [.slice A n c], Bn.row 3 1 (.slice A2 m d) (sy.map nV)] (JR vs) F)
    refine XR_a (op_assign rfl) rfl rfl ?_
    refine XR_nil ?_
    refine X_seq ?_
    refine X_reg ?_
    refine XR_a (op_move rfl) rfl rfl ?_
    refine XR_a (op_move rfl) rfl rfl ?_
    refine XR_ya (opy_yield rfl (hround vs _ _ _ st3.low (by omega) rfl st3.here) rfl) rfl rfl rfl ?_
    rintro _ hp3 ⟨rfl, st4⟩
    have st5 := (st3.trans st4).perm (List.perm_append_comm_assoc (JR (vs ++ [Value.slice A6 n6 c6])) [rowsR 110 2 ((.slice A6 n6 c6, (rowE (sy.map (wkey ws)) (j + 1)).flatMap eC) :: L), pt q 49 [.slice A2 m d], pt p 49 [.slice A n c], Bn.row 3 1 (.slice A2 m d) (sy.map nV)] F)
    first | refine XR_a (op_notd rfl) rfl rfl ?_ | refine XR_a (op_not rfl) rfl rfl ?_
    refine XR_nil ?_
    refine X_else rfl ?_
    refine X_skip ?_
    refine X_blk ?_
    refine X_reg ?_
    first | refine XR_a (op_addN (n := 1) rfl rfl (by simp only [inK]; omega)) rfl rfl ?_ | refine XR_a (op_addI rfl rfl (by simp only [inK]; omega)) rfl rfl ?_ | refine XR_a (op_add rfl rfl) rfl rfl ?_
    refine XR_a (op_move rfl) rfl rfl ?_
    refine XR_nil ?_
    refine X_again (j + 1, Value.slice A6 n6 c6, vs ++ [Value.slice A6 n6 c6], (Value.slice A6 n6 c6, (rowE (sy.map (wkey ws)) (j + 1)).flatMap eC) :: L) (.cons rfl (.cons rfl (.cons rfl (.cons rfl (.cons rfl (.nil _)))))) ⟨by simp only; omega, by simp [hvs], fun i hi => ?_, .inr (by simp), st5⟩ (by simp only; omega)
    simp only at hi ⊢
    rcases Nat.lt_or_ge i j with h1 | h1
    · rw [show (vs ++ [Value.slice A6 n6 c6]).getD i (.slice none 0 0) = vs.getD i (.slice none 0 0) by rw [List.getD, List.getD, List.getElem?_append_left (by omega)]]
      exact List.mem_cons_of_mem _ (hL i h1)
    · obtain rfl : i = j := by omega
      rw [show (vs ++ [Value.slice A6 n6 c6]).getD i (.slice none 0 0) = Value.slice A6 n6 c6 by rw [List.getD, List.getElem?_append_right (by omega), hvs, Nat.sub_self]; rfl]
      exact List.mem_cons_self
  · refine X_exit rfl ?_
    refine X_end .nil ?_
    obtain rfl : j = 15 := by omega
    refine ⟨vs, L, hvs, hL, ?_⟩
    have h1 := st.perm (List.perm_append_comm_assoc [rowsR 110 2 L, pt q 49 [.slice A2 m d], pt p 49 [.slice A n c], Bn.row 3 1 (.slice A2 m d) (sy.map nV)] (JR vs) F)
    have h2 : (JR vs ++ (([rowsR 110 2 L, pt q 49 [.slice A2 m d], pt p 49 [.slice A n c], Bn.row 3 1 (.slice A2 m d) (sy.map nV)] : List Res) ++ F)).Perm (pt q 49 [.slice A2 m d] :: pt p 49 [.slice A n c] :: (JR vs ++ (rowsR 110 2 L :: Bn.row 3 1 (.slice A2 m d) (sy.map nV) :: F))) := by
      refine (List.perm_append_comm_assoc _ _ _).trans ?_
      refine (List.Perm.append_right _ (?_ : List.Perm _ ([pt q 49 [.slice A2 m d], pt p 49 [.slice A n c]] ++ [rowsR 110 2 L, Bn.row 3 1 (.slice A2 m d) (sy.map nV)]))).trans ?_
      · exact (List.perm_middle (l₁ := [pt q 49 [.slice A2 m d], pt p 49 [.slice A n c]])).symm
      · rw [List.append_assoc]
        exact ((List.perm_append_comm_assoc [rowsR 110 2 L, Bn.row 3 1 (.slice A2 m d) (sy.map nV)] (JR vs) F).cons _).cons _
    exact (h1.perm h2).tail.tail

theorem appendSeq_rows {B gf : Nat} {lb : List Value} {α : Type} {Q : α → Prop} {out : α → List Value} {F : List Res} {F2 : α → List Res} {h0 : Heap} (st0 : St B h0 h0 F) (hc : callOk Try.prog gf = true)
    (hiter : ∀ (JR : List Value → List Res) (G : List Res) (y : Nat) (h : Heap), Low B h0 h → St B h h (F ++ (JR [] ++ G)) →
      (∀ (s : List Value) (v : Value) (F' : List Res) (h' : Heap), Low B h h' → s.length ≤ 14 → Value.one v = true → St B h' h' (JR s ++ F') → RRet Try.prog y [v] h' fun u h'' => u = .bool true ∧ St B h' h'' (JR (s ++ [v]) ++ F')) →
      Ret Try.prog gf (.func (.yield y) #[] #[] :: lb) h fun _ h' => ∃ x, Q x ∧ St B h h' (JR (out x) ++ (F2 x ++ G))) :
    Ret Try.prog 111 [.slice none 0 0, .func (.func gf) #[] lb.toArray] h0 fun v h' => ∃ x, Q x ∧ St B h0 h' (Bn.row 102 1 v (out x) :: F2 x) := by
  refine ret_of_X Try.func111 rfl rfl fun w0 hw0 => ?_
  simp only [argE, Nat.zero_add, Nat.reduceAdd]
  refine X_seq ?_
  refine X_reg ?_
  refine XR_wa (opl_bx rfl rfl) rfl rfl rfl ?_
  rintro _ hp ⟨p, rfl, hnew⟩
  have st := (st0.new hnew).nilrow 102 1
  refine XR_a (op_assign rfl) rfl rfl ?_
  refine XR_nil ?_
  refine X_seq ?_
  refine X_seq ?_
  refine X_reg ?_
  refine XR_a (op_move rfl) rfl rfl ?_
  refine XR_nil ?_
  refine X_block ?_
  refine X_rangeS st rfl rfl hc fun fn tmps L y d hp1 hL hok hx1 st1 => ?_
  obtain ⟨JR, hJR⟩ : ∃ JR : List Value → List Res, JR = fun s => [obj y (L .ready none), exR fun v => starR (Bn.row 102 1 v s) (pt p 100 [v])] := ⟨_, rfl⟩
  have st2 : St B h0 hp1 (F ++ (JR [] ++ [obj d (.deferred (some []))])) := by
    have s1 := st1.perm ((List.perm_append_comm (l₁ := [obj y (L .ready none), obj d (.deferred (some [])), Bn.row 102 1 (.slice none 0 0) [], pt p 100 [.slice none 0 0]]) (l₂ := F)).trans (List.Perm.refl _))
    have s2 := s1.perm (List.perm_append_comm (l₁ := F))
    have s3 : St B h0 hp1 (Bn.row 102 1 (.slice none 0 0) [] :: pt p 100 [.slice none 0 0] :: obj y (L .ready none) :: obj d (.deferred (some [])) :: F) :=
      s2.perm (List.perm_append_comm_assoc [obj y (L .ready none), obj d (.deferred (some []))] [Bn.row 102 1 (.slice none 0 0) [], pt p 100 [.slice none 0 0]] F)
    have s4 : St B h0 hp1 ((exR fun v => starR (Bn.row 102 1 v []) (pt p 100 [v])) :: obj y (L .ready none) :: obj d (.deferred (some [])) :: F) := St.ex.2 ⟨Value.slice none 0 0, St.star.2 s3⟩
    have s5 := s4.perm ((List.Perm.swap _ _ _).trans (List.perm_append_comm (l₁ := [obj y (L .ready none), exR fun v => starR (Bn.row 102 1 v []) (pt p 100 [v]), obj d (.deferred (some []))]) (l₂ := F)))
    rw [hJR]; exact s5
  refine Ret.mono (hiter JR [obj d (.deferred (some []))] y hp1 st2.low st2.here ?_) ?_
  · intro s u0 F' h hlow hs14 hv1 st3
    subst hL
    subst hJR
    simp only [List.cons_append, List.nil_append] at st3
    obtain ⟨v9, st3⟩ := St.ex.1 (st3.perm (List.Perm.swap _ _ _))
    have st := (St.star.1 st3)
    refine rret_of_X (st.obj_at 2 rfl) hok rfl rfl fun w0 hw0 => ?_
    simp only [penv]
    refine X_reg ?_
    refine XR_a (op_assign rfl) rfl rfl ?_
    refine XR_nil ?_
    refine X_begin (st.obj_at 2 rfl) ?_
    replace st := st.loop 2 .busy none rfl
    simp only [List.set_cons_zero, List.set_cons_succ] at st
    refine X_block ?_
    refine X_reg ?_
    refine XR_a (op_ld (st.cell 1 (i := 0) rfl rfl) rfl rfl rfl) rfl rfl ?_
    refine XR_a (op_move rfl) rfl rfl ?_
    refine XR_wa (opl_var1 rfl hv1 rfl) rfl rfl rfl ?_
    rintro _ hp ⟨A, rfl, hx, hrd⟩
    replace st := st.ext hx
    refine XR_wa (opl_append st 0 rfl (hrd) (rfl) (by intro u hu; rw [List.mem_singleton.1 hu]; exact hv1) (by simp; omega) rfl rfl rfl rfl rfl rfl rfl) rfl rfl rfl fun v hp st => ?_
    simp only [List.set_cons_zero, List.set_cons_succ] at st
    obtain ⟨A6, n6, c6, rfl, _⟩ := st.row 0 rfl
    refine XR_wn (opl_store_pt st 1 rfl rfl rfl rfl rfl (rfl)) rfl rfl fun _ hp st => ?_
    simp only [List.set_cons_zero, List.set_cons_succ] at st
    refine XR_nil ?_
    refine X_blk ?_
    refine X_rnd (st.obj_at 2 rfl) ⟨rfl, ?_⟩
    replace st := st.loop 2 .ready none rfl
    simp only [List.set_cons_zero, List.set_cons_succ] at st
    have s6 := (St.ex.2 ⟨_, St.star.2 st⟩ : St B h _ ((exR fun v => starR (Bn.row 102 1 v (s ++ [u0])) (pt p 100 [v])) :: _)) 
    exact s6.perm (List.Perm.swap _ _ _)
  rintro _ h' ⟨x, hQ, st3⟩
  subst hJR
  simp only [List.cons_append, List.nil_append] at st3
  refine .inl ⟨_, st2.trans st3, fun hp3 st4 => ?_⟩
  obtain ⟨v9, st4⟩ := St.ex.1 (st4.perm (List.Perm.swap _ _ _))
  have st := St.star.1 st4
  refine X_blk ?_
  refine X_seq ?_
  refine X_reg ?_
  refine XR_a (op_ld (st.cell 1 (i := 0) rfl rfl) rfl rfl rfl) rfl rfl ?_
  refine XR_a (op_assign rfl) rfl rfl ?_
  refine XR_nil ?_
  have hperm : (Bn.row 102 1 v9 (out x) :: pt p 100 [v9] :: obj y (L .exhausted none) :: (F2 x ++ [obj d (.deferred (some []))])).Perm (obj d (.deferred (some [])) :: obj y (L .exhausted none) :: pt p 100 [v9] :: Bn.row 102 1 v9 (out x) :: F2 x) := by
    refine (List.perm_append_comm (l₁ := Bn.row 102 1 v9 (out x) :: pt p 100 [v9] :: obj y (L .exhausted none) :: F2 x) (l₂ := [obj d (.deferred (some []))])).trans (List.Perm.cons _ ?_)
    exact (List.perm_append_comm_assoc [Bn.row 102 1 v9 (out x), pt p 100 [v9]] [obj y (L .exhausted none)] (F2 x)).trans (List.Perm.cons _ (List.Perm.swap _ _ _))
  replace st := st.perm hperm
  refine X_retM (d := d) (.cons (.tmp rfl) .nil) ?_ (st.obj_at 0 rfl)
  replace st := st.put 0 (.deferred none) rfl
  exact ⟨x, hQ, st.tail.tail.tail⟩

theorem collect_rows {B gf : Nat} {lb : List Value} {α : Type} {Q : α → Prop} {out : α → List Value} {F : List Res} {F2 : α → List Res} {h0 : Heap} (st0 : St B h0 h0 F) (hc : callOk Try.prog gf = true)
    (hiter : ∀ (JR : List Value → List Res) (G : List Res) (y : Nat) (h : Heap), Low B h0 h → St B h h (F ++ (JR [] ++ G)) →
      (∀ (s : List Value) (v : Value) (F' : List Res) (h' : Heap), Low B h h' → s.length ≤ 14 → Value.one v = true → St B h' h' (JR s ++ F') → RRet Try.prog y [v] h' fun u h'' => u = .bool true ∧ St B h' h'' (JR (s ++ [v]) ++ F')) →
      Ret Try.prog gf (.func (.yield y) #[] #[] :: lb) h fun _ h' => ∃ x, Q x ∧ St B h h' (JR (out x) ++ (F2 x ++ G))) :
    Ret Try.prog 71 [.func (.func gf) #[] lb.toArray] h0 fun v h' => ∃ x, Q x ∧ St B h0 h' (Bn.row 102 1 v (out x) :: F2 x) := by
  refine ret_of_X Try.func71 rfl rfl fun w0 hw0 => ?_
  simp only [argE, Nat.zero_add, Nat.reduceAdd]
  refine X_seq ?_
  refine X_reg ?_
  refine XR_a (op_assign rfl) rfl rfl ?_
  refine XR_nil ?_
  refine X_seq ?_
  refine X_reg ?_
  refine XR_a (op_move rfl) rfl rfl ?_
  refine XR_wa (opl_call (appendSeq_rows st0 hc hiter) rfl (by kernel_rfl)) rfl rfl rfl ?_
  rintro v hp h
  refine XR_a (op_assign rfl) rfl rfl ?_
  refine XR_nil ?_
  refine X_ret (.cons (.tmp rfl) .nil) ?_
  exact h

theorem backward_spec {n c : Nat} {A : Option Addr} {h0 : Heap} : Ret Try.prog 73 [.slice A n c] h0 fun v h' => ∃ p, v = .func (.func 114) #[] #[.pointer (some ⟨p, 0, none⟩)] ∧ St h0.size h0 h' [pt p 100 [.slice A n c]] := by
  refine ret_of_X Try.func73 rfl rfl fun w0 hw0 => ?_
  simp only [argE, Nat.zero_add, Nat.reduceAdd]
  have st := St.start h0
  refine X_seq ?_
  refine X_reg ?_
  refine XR_wa (opl_bx rfl rfl) rfl rfl rfl ?_
  rintro _ hp ⟨p, rfl, hnew⟩
  replace st := st.new hnew
  refine XR_a (op_assign rfl) rfl rfl ?_
  refine XR_nil ?_
  refine X_seq ?_
  refine X_reg ?_
  refine XR_a (op_mkFunc rfl) rfl rfl ?_
  refine XR_a (op_assign rfl) rfl rfl ?_
  refine XR_nil ?_
  refine X_ret (.cons (.tmp rfl) .nil) ?_
  exact ⟨_, rfl, st⟩

theorem backward_iter {B y p m c : Nat} {A : Option Addr} {vs : List Value} {F : List Res} {h0 : Heap} (JR : Nat → List Res) (hm : m ≤ 1048576)
    (st0 : St B h0 h0 (pt p 100 [.slice A m c] :: Bn.row 102 1 (.slice A m c) vs :: (JR 0 ++ F)))
    (hround : ∀ (j : Nat) (F' : List Res) (h : Heap), Low B h0 h → j < m → St B h h (JR j ++ F') → RRet Try.prog y [nV (m - 1 - j), vs.getD (m - 1 - j) (.slice none 0 0)] h fun u h' => u = .bool true ∧ St B h h' (JR (j + 1) ++ F')) :
    Ret Try.prog 114 [.func (.yield y) #[] #[], .pointer (some ⟨p, 0, none⟩)] h0 fun _ h' => St B h0 h' (JR m ++ F) := by
  have hvl : vs.length = m := by
    obtain ⟨_, _, _, he, hl2, _⟩ := st0.row 1 rfl
    cases he; simpa using hl2
  refine ret_of_X Try.func114 rfl rfl fun w0 hw0 => ?_
  simp only [argE, Nat.zero_add, Nat.reduceAdd]
  refine X_seq ?_
  refine X_reg ?_
  refine XR_a (op_ld (st0.cell 0 (i := 0) rfl rfl) rfl rfl rfl) rfl rfl ?_
  refine XR_a (op_len rfl rfl rfl) rfl rfl ?_
  first | refine XR_a (op_subN (n := 1) rfl rfl (by omega) (by simp only [inK]; omega)) rfl rfl ?_ | refine XR_a (op_subI rfl rfl (by simp only [inK]; omega)) rfl rfl ?_ | refine XR_a (op_sub rfl rfl) rfl rfl ?_
  refine XR_a (op_assign rfl) rfl rfl ?_
  refine XR_nil ?_
  refine X_block ?_
  refine X_loop (fun j => m - j) (fun j => [(0, .func (.yield y) #[] #[]), (1, .pointer (some ⟨p, 0, none⟩)), (3, .int .i64 ((m : Int) - 1 - (j : Int)))])
    (fun (j : Nat) hp => j ≤ m ∧ St B h0 hp (pt p 100 [.slice A m c] :: Bn.row 102 1 (.slice A m c) vs :: (JR j ++ F)))
    0 (.cons rfl (.cons rfl (.cons (by rw [show (m : Int) - 1 - ((0 : Nat) : Int) = (m : Int) - 1 by omega]; rfl) (.nil _)))) ⟨Nat.zero_le _, st0⟩ ?_
  rintro j hp ⟨hj, st⟩
  refine X_seq ?_
  refine X_seq ?_
  refine X_reg ?_
  refine XR_a (op_move rfl) rfl rfl ?_
  refine XR_a (op_geq rfl rfl) rfl rfl ?_
  refine XR_nil ?_
  refine X_if rfl (fun h => ?_) (fun h => ?_)
  · have hjm : j < m := by omega
    rw [show (m : Int) - 1 - (j : Int) = ((m - 1 - j : Nat) : Int) by omega]
    have hrs := (st.rdS 1 rfl).2
    obtain ⟨g, o, rfl, hcA⟩ := hrs.at_ (by omega)
    have hci := hcA (m - 1 - j) (vs.getD (m - 1 - j) (.slice none 0 0)) (by rw [List.getElem?_eq_getElem (by omega)]; simp [List.getD, hvl, show m - 1 - j < m by omega])
    refine X_skip ?_
    refine X_seq ?_
    refine X_block ?_
    refine X_seq ?_
    refine X_reg ?_
    refine XR_a (op_move rfl) rfl rfl ?_
    refine XR_a (op_move rfl) rfl rfl ?_
    refine XR_a (op_ld (st.cell 0 (i := 0) rfl rfl) rfl rfl rfl) rfl rfl ?_
    refine XR_a (op_move rfl) rfl rfl ?_
    first | refine XR_a (op_index1 rfl rfl rfl (by omega)) rfl rfl ?_ | refine XR_a (op_index rfl rfl rfl (by omega)) rfl rfl ?_
    refine XR_a (op_ld (hci) rfl rfl rfl) rfl rfl ?_
    refine XR_ya (opy_yield rfl (hround j _ _ st.low hjm (st.here.perm (List.perm_append_comm_assoc [pt p 100 [.slice _ m c], Bn.row 102 1 (.slice _ m c) vs] (JR j) F))) rfl) rfl rfl rfl ?_
    rintro _ hp3 ⟨rfl, st4⟩
    have st5 := st.trans (st4.perm (List.perm_append_comm_assoc (JR (j + 1)) [pt p 100 [.slice _ m c], Bn.row 102 1 (.slice _ m c) vs] F))
    first | refine XR_a (op_notd rfl) rfl rfl ?_ | refine XR_a (op_not rfl) rfl rfl ?_
    refine XR_nil ?_
    refine X_else rfl ?_
    refine X_skip ?_
    refine X_blk ?_
    refine X_reg ?_
    refine XR_a (op_move rfl) rfl rfl ?_
    refine XR_a (op_subI rfl rfl (by simp only [inK]; omega)) rfl rfl ?_
    refine XR_a (op_assign rfl) rfl rfl ?_
    refine XR_nil ?_
    exact X_again (j + 1) (.cons rfl (.cons rfl (.cons (by rw [show (m : Int) - 1 - ((j + 1 : Nat) : Int) = ((m - 1 - j : Nat) : Int) - 1 by omega]; rfl) (.nil _)))) ⟨by omega, st5⟩ (by omega)
  · refine X_exit rfl ?_
    refine X_end .nil ?_
    obtain rfl : j = m := by omega
    exact st.tail.tail
end Go.Bn
