/- Packed texts of a claim: what its theorem uses, joined. -/
import Derived.Test.YtedkglaoablgaaaPkReader16
section
set_option linter.unusedVariables false
set_option linter.unusedSimpArgs false
set_option maxHeartbeats 4000000
set_option maxRecDepth 20000
namespace Go.Bn
open Go Proofs
section
variable {P : Program} {E : Env} {hp : Heap} {cl : Cls} {d : Option Tmp} {ty : TypeId} {pos : String} {af : Array Edge} {g : Option (Nat × Bool)} {x y : Operand} {t t' : TypeId}
theorem op_slice_h3 {hi mx : Operand} {sz h n c : Nat} {k k' : IntKind} {A : Option Addr} (hx : ev E x = some (.slice A n c)) (hhi : ev E hi = some (.int k (h : Int))) (hmx : ev E mx = some (.int k' (h : Int))) (ht : sliceEl P t = some sz)
    (hhc : h ≤ c) : Op1 cl P ⟨d, .slice t x none (some hi) (some mx), ty, pos, af, g⟩ E hp (.slice A h h) :=
  .of_pure fun _ a ho w' => by
    obtain ⟨e, i, hu, hi', hs⟩ := sliceEl_spec ht
    have hhc' : (h : Int) ≤ (c : Int) := by omega
    have hz := cutA_zero A sz h
    unfold cutA at hz
    have : (Instr.sliceAt t (.slice A n c) none (some (.int k (h : Int))) (some (.int k' (h : Int)))).run P w' = .ok (.slice A h h) w' := by
      have e1 : (Instr.sliceAt t (.slice A n c) none (some (.int k (h : Int))) (some (.int k' (h : Int)))).run P w' = (Instr.slice t (.slice A n c) none (some (.int k (h : Int))) (some (.int k' (h : Int)))).run P w' := by
        simp [Instr.sliceAt, run_underlying hu]
      rw [e1]
      simp [Instr.slice, run_underlying hu, Instr.sliceBounds, Instr.sliceBound, asIntOf, sizeOf, typeInfo, hi', hs, hhc]
      simpa using hz
    simp [execOp, ho.eval hx, ho.eval hhi, ho.eval hmx, this]
end
theorem all36_iter {B y pq pr told0 gE : Nat} {S : Sou B} {gB : List UInt8} {F : List Res} {h0 : Heap} (JR JD : Nat → List Res) (st0 : St B h0 h0 (rdrR S pr gB gE told0 :: pt pq 32 [.pointer (some ⟨pr, 0, none⟩)] :: (JR told0 ++ F))) (hls : Low B S.hb h0) (ht0 : told0 ≤ gB.length)
    (hround : ∀ (told : Nat) (A' : Option Addr) (n' c' : Nat) (F' : List Res) (h : Heap), Low B h0 h → told < gB.length → St B h h (row 5 1 (.slice A' n' c') (((gB.drop told).take (min 100 (gB.length - told))).map byteV) :: (JR told ++ F')) →
      RRet Try.prog y [.slice A' n' c'] h fun v h' => ∃ b, v = .bool b ∧ (b = true → St B h h' (JR (told + min 100 (gB.length - told)) ++ F')) ∧ (b = false → St B h h' (JD (told + min 100 (gB.length - told)) ++ F'))) :
    Ret Try.prog 50 [.func (.yield y) #[] #[], .pointer (some ⟨pq, 0, none⟩)] h0
      fun _ h' => St B h0 h' (rdrR S pr gB gE gB.length :: pt pq 32 [.pointer (some ⟨pr, 0, none⟩)] :: (JR gB.length ++ F)) ∨ ∃ t, t ≤ gB.length ∧ St B h0 h' (rdrR S pr gB gE t :: pt pq 32 [.pointer (some ⟨pr, 0, none⟩)] :: (JD t ++ F)) := by
  refine ret_of_X Try.func50 rfl rfl fun w0 hw0 => ?_
  simp only [argE, Nat.zero_add, Nat.reduceAdd]
  refine X_block ?_
  refine X_loop (fun s => gB.length - s) (fun s => [(0, .func (.yield y) #[] #[]), (1, .pointer (some ⟨pq, 0, none⟩))])
    (fun (s : Nat) hp => s ≤ gB.length ∧ St B h0 hp (rdrR S pr gB gE s :: pt pq 32 [.pointer (some ⟨pr, 0, none⟩)] :: (JR s ++ F)))
    told0 (.cons rfl (.cons rfl (.nil _))) ⟨ht0, st0⟩ ?_
  rintro told hp ⟨ht, st⟩
  clear st0
  refine X_block ?_
  refine X_seq ?_
  refine X_reg ?_
  refine XR_a (op_ld (st.cell 1 (i := 0) rfl rfl) rfl rfl rfl) rfl rfl ?_
  refine XR_wa (opl_call (rnext_spec st.here (hls.trans st.low) (n := 100) (by simp only [inK]; omega)) rfl (by kernel_rfl)) rfl rfl rfl ?_
  rintro _ hp4 ⟨w4, rfl, st2⟩
  replace st := st.trans st2
  clear st2
  have hK : nextK gB told 100 = min 100 (gB.length - told) := by unfold nextK; rw [if_neg (by omega)]; rfl
  rw [hK] at st
  obtain ⟨A4, n4, c4, rfl, hl4, _⟩ := st.row 0 rfl
  rw [List.length_map, List.length_take, List.length_drop, Nat.mul_one] at hl4
  refine XR_a (op_move rfl) rfl rfl ?_
  refine XR_a (op_extract rfl rfl) rfl rfl ?_
  refine XR_a (op_extract rfl rfl) rfl rfl ?_
  refine XR_a (op_assign rfl) rfl rfl ?_
  refine XR_a (op_assign rfl) rfl rfl ?_
  refine XR_nil ?_
  refine X_seq ?_
  refine X_reg ?_
  refine XR_a (op_move rfl) rfl rfl ?_
  refine XR_a (op_len rfl rfl rfl) rfl rfl ?_
  refine XR_a (op_eql rfl rfl) rfl rfl ?_
  refine XR_a (op_move rfl) rfl rfl ?_
  refine XR_if 13 rfl (fun h => ?_) (fun h => ?_)
  · refine XR_no rfl rfl ?_
    refine XR_no rfl rfl ?_
    refine XR_no rfl rfl ?_
    refine XR_no rfl rfl ?_
    refine XR_a (op_pick_t rfl rfl) rfl rfl ?_
    refine XR_nil ?_
    refine X_then rfl ?_
    refine X_ret .nil ?_
    obtain rfl : told = gB.length := by omega
    replace st := st.tail
    rw [show gB.length - gB.length = 0 by omega, Nat.min_zero, Nat.add_zero] at st
    exact .inl st
  · refine XR_a (op_move rfl) rfl rfl ?_
    refine XR_a (op_move rfl) rfl rfl ?_
    refine XR_ya (opy_yield rfl (hround told A4 n4 c4 (rdrR S pr gB gE (told + min 100 (gB.length - told)) :: pt pq 32 [.pointer (some ⟨pr, 0, none⟩)] :: F) _ st.low (by omega) (st.here.perm (.cons _ (List.perm_append_comm_assoc [_, _] _ _)))) rfl) rfl rfl rfl ?_
    rintro _ hp5 ⟨b, rfl, hT, hF⟩
    first | refine XR_a (op_notd rfl) rfl rfl ?_ | refine XR_a (op_not rfl) rfl rfl ?_
    refine XR_as (.bool (decide (b = false))) (congrArg Value.bool (by cases b <;> rfl)) ?_
    refine XR_a (op_pick_f rfl rfl) rfl rfl ?_
    refine XR_nil ?_
    refine X_if rfl (fun h => ?_) (fun h => ?_)
    · refine X_ret .nil ?_
      have hb : b = false := h
      exact .inr ⟨told + min 100 (gB.length - told), by omega, (st.trans ((hF hb).perm (List.perm_append_comm_assoc _ [_, _] _)))⟩
    · refine X_skip ?_
      refine X_blk ?_
      have hb : b = true := by cases b <;> simp at h ⊢
      exact X_again (told + min 100 (gB.length - told)) (.cons rfl (.cons rfl (.nil _))) ⟨by omega, st.trans ((hT hb).perm (List.perm_append_comm_assoc _ [_, _] _))⟩ (by omega)
theorem RV1 {P : Program} {hp : Heap} {E : Env} {a : Tmp} {t : TypeId} {p : Nat} {v : Value} (h : E.get a = some (.pointer (some ⟨p, 0, none⟩))) (ht : single P t = true) (hc : cellH hp ⟨p, 0, none⟩ = some v) : RV P hp E (.cell a t) v :=
  .cell h fun w hw => run_loadVar_single ht (by rw [hw]; exact hc)
theorem outT {gB : List UInt8} {t f n : Nat} (h : n ≤ t - f) : ((gB.take t).drop f).take n = (gB.drop f).take n := by
  rw [List.drop_take, List.take_take, Nat.min_eq_left h]
theorem outP {gB : List UInt8} {told K f : Nat} (h : told ≤ gB.length) : (gB.take (told + K)).drop f = (gB.take told).drop f ++ ((gB.drop told).take K).drop (f - told) := by
  rw [List.take_add, List.drop_append, List.length_take, Nat.min_eq_left h]
theorem rpart_spec {m c : Nat} {mt size fr n : Int} {A : Option Addr} {l gB : List UInt8} {gE : Nat} {h0 : Heap} (hr : Rd h0 A (l.map byteV)) (hl : l.length = m) (hm : m ≤ 1073741824) (hmc : m ≤ c) (hfr : inK .i64 fr) (hn : inK .i64 n)
    (hG : newE mt l size = 0 → Giv (mvOf mt l size) (atOf mt l) [] gB gE) :
    Ret Try.prog 21 [.int .i64 mt, .slice A m c, .int .i64 size, .int .i64 fr, .int .i64 n] h0 fun v h' => ∃ A' g' c', v = retVal [.slice A' g' c', nV (partG (newE mt l size) gB gE fr n).2] ∧ (partG (newE mt l size) gB gE fr n).1.length = g' ∧ g' ≤ c' ∧ Rd h' A' ((partG (newE mt l size) gB gE fr n).1.map byteV) ∧ Ext h0 h' := by
  obtain ⟨P, hP⟩ : ∃ P, partG (newE mt l size) gB gE fr n = P := ⟨_, rfl⟩
  rw [hP]
  unfold partG at hP
  simp only [inK] at hfr hn
  refine ret_of_X Try.func21 rfl rfl fun w0 hw0 => ?_
  simp only [argE, Nat.zero_add, Nat.reduceAdd]
  have st := St.start h0
  refine X_seq ?_
  refine X_reg ?_
  refine XR_wa (opl_bx (cs := [.int .i64 fr]) rfl rfl) rfl rfl rfl ?_
  rintro _ hp ⟨p8, rfl, hnew⟩
  replace st := st.new hnew
  refine XR_wa (opl_bx (cs := [.int .i64 n]) rfl rfl) rfl rfl rfl ?_
  rintro _ hp ⟨p9, rfl, hnew⟩
  replace st := st.new hnew
  refine XR_wa (opl_new rfl) rfl rfl rfl ?_
  rintro _ hp ⟨p10, rfl, hnew⟩
  replace st := st.new hnew
  refine XR_wa (opl_new rfl) rfl rfl rfl ?_
  rintro _ hq ⟨p11, rfl, hnew⟩
  replace st := st.new hnew
  refine XR_nil ?_
  refine X_seq ?_
  refine X_seq ?_
  refine X_reg ?_
  refine XR_a (op_ld (st.cell 3 (i := 0) rfl rfl) rfl rfl rfl) rfl rfl ?_
  refine XR_a (op_lss rfl rfl) rfl rfl ?_
  refine XR_a (op_move rfl) rfl rfl ?_
  refine XR_if 21 rfl (fun h => ?_) (fun h => ?_)
  · refine XR_no rfl rfl ?_
    refine XR_no rfl rfl ?_
    refine XR_a (op_pick_t rfl rfl) rfl rfl ?_
    refine XR_nil ?_
    refine X_then rfl ?_
    refine X_seq ?_
    refine X_reg ?_
    refine XR_wn (opl_store_pt st 1 rfl rfl rfl rfl rfl (rfl)) rfl rfl fun _ hp st => ?_
    simp only [List.set_cons_zero, List.set_cons_succ] at st
    refine XR_wn (opl_store_pt st 0 rfl rfl rfl rfl rfl (rfl)) rfl rfl fun _ hp st => ?_
    simp only [List.set_cons_zero, List.set_cons_succ] at st
    refine XR_nil ?_
    refine X_ret ((.cons (RV1 rfl rfl (st.cell 1 (i := 0) rfl rfl)) (.cons (RV1 rfl rfl (st.cell 0 (i := 0) rfl rfl)) .nil))) ?_
    rw [if_pos (by omega)] at hP
    subst hP
    exact ⟨_, _, _, rfl, rfl, Nat.le_refl _, Rd.nil _ _, st.low⟩
  · refine XR_a (op_ld (st.cell 2 (i := 0) rfl rfl) rfl rfl rfl) rfl rfl ?_
    refine XR_a (op_lss rfl rfl) rfl rfl ?_
    refine XR_a (op_pick_f rfl rfl) rfl rfl ?_
    refine XR_nil ?_
    refine X_if rfl (fun h => ?_) (fun h => ?_)
    · refine X_seq ?_
      refine X_reg ?_
      refine XR_wn (opl_store_pt st 1 rfl rfl rfl rfl rfl (rfl)) rfl rfl fun _ hp st => ?_
      simp only [List.set_cons_zero, List.set_cons_succ] at st
      refine XR_wn (opl_store_pt st 0 rfl rfl rfl rfl rfl (rfl)) rfl rfl fun _ hp st => ?_
      simp only [List.set_cons_zero, List.set_cons_succ] at st
      refine XR_nil ?_
      refine X_ret ((.cons (RV1 rfl rfl (st.cell 1 (i := 0) rfl rfl)) (.cons (RV1 rfl rfl (st.cell 0 (i := 0) rfl rfl)) .nil))) ?_
      rw [if_pos (by omega)] at hP
      subst hP
      exact ⟨_, _, _, rfl, rfl, Nat.le_refl _, Rd.nil _ _, st.low⟩
    · rw [if_neg (by omega)] at hP
      obtain ⟨f, rfl⟩ : ∃ f : Nat, fr = (f : Int) := ⟨fr.toNat, by omega⟩
      obtain ⟨nn, rfl⟩ : ∃ f : Nat, n = (f : Int) := ⟨n.toNat, by omega⟩
      simp only [Int.toNat_natCast] at hP
      refine X_skip ?_
      refine X_seq ?_
      refine X_reg ?_
      refine XR_a (op_move rfl) rfl rfl ?_
      refine XR_a (op_move rfl) rfl rfl ?_
      refine XR_a (op_move rfl) rfl rfl ?_
      refine XR_wa (opl_call (rdnew_spec st.here (fun h' hh => hr.ext (st.low.trans hh)) hl hm hmc) rfl (by kernel_rfl)) rfl rfl rfl ?_
      rintro _ hp2 ⟨w, rfl, hbad, hgood⟩
      have hx0 := st.low
      refine XR_a (op_move rfl) rfl rfl ?_
      refine XR_a (op_extract rfl rfl) rfl rfl ?_
      refine XR_a (op_extract rfl rfl) rfl rfl ?_
      refine XR_a (op_assign rfl) rfl rfl ?_
      refine XR_a (op_assign rfl) rfl rfl ?_
      refine XR_nil ?_
      refine X_seq ?_
      refine X_seq ?_
      refine X_reg ?_
      refine XR_a (op_move rfl) rfl rfl ?_
      by_cases hN : newE mt l size = 0
      · obtain ⟨pr, S, rfl, hSb, hst⟩ := hgood hN
        have st := hst _ _ (hG hN)
        rw [hN] at hP ⊢
        rw [if_neg (fun hh => hh rfl)] at hP
        clear hbad hgood hst hG
        refine XR_a (op_neq rfl rfl) rfl rfl ?_
        refine XR_as (.bool false) (congrArg Value.bool (decide_eq_false (by simp))) ?_
        refine XR_a (op_move rfl) rfl rfl ?_
        refine XR_a (op_ld (st.cell 3 (i := 0) rfl rfl) rfl rfl rfl) rfl rfl ?_
        refine XR_a (op_eql rfl rfl) rfl rfl ?_
        refine XR_a (op_pick_f rfl rfl) rfl rfl ?_
        refine XR_nil ?_
        refine X_if rfl (fun h => ?_) (fun h => ?_)
        · refine X_seq ?_
          refine X_reg ?_
          refine XR_a (op_move rfl) rfl rfl ?_
          refine XR_wn (opl_store_pt st 2 rfl rfl rfl rfl rfl (rfl)) rfl rfl fun _ hp st => ?_
          simp only [List.set_cons_zero, List.set_cons_succ] at st
          refine XR_wn (opl_store_pt st 1 rfl rfl rfl rfl rfl (rfl)) rfl rfl fun _ hp st => ?_
          simp only [List.set_cons_zero, List.set_cons_succ] at st
          refine XR_nil ?_
          refine X_ret ((.cons (RV1 rfl rfl (st.cell 2 (i := 0) rfl rfl)) (.cons (RV1 rfl rfl (st.cell 1 (i := 0) rfl rfl)) .nil))) ?_
          obtain rfl : nn = 0 := by omega
          rw [if_pos (by omega), List.take_zero] at hP
          subst hP
          exact ⟨_, _, _, rfl, rfl, Nat.le_refl _, Rd.nil _ _, hx0.trans st.low⟩
        · refine X_skip ?_
          refine X_seq ?_
          refine X_reg ?_
          refine XR_wa (opl_new rfl) rfl rfl rfl ?_
          rintro _ hp ⟨p14, rfl, hnew⟩
          replace st := st.new hnew
          refine XR_nil ?_
          refine X_seq ?_
          refine X_reg ?_
          refine XR_wa (opl_new rfl) rfl rfl rfl ?_
          rintro _ hp ⟨p15, rfl, hnew⟩
          replace st := st.new hnew
          refine XR_wn (opl_store_pt st 0 rfl rfl rfl rfl rfl (rfl)) rfl rfl fun _ hp st => ?_
          simp only [List.set_cons_zero, List.set_cons_succ] at st
          refine XR_nil ?_
          refine X_seq ?_
          refine X_seq ?_
          refine X_reg ?_
          refine XR_a (op_move rfl) rfl rfl ?_
          refine XR_wa (opl_call (rall_spec st.here) rfl (by kernel_rfl)) rfl rfl rfl ?_
          rintro _ hp5 ⟨pq, rfl, st2⟩
          replace st := st.trans st2
          clear st2
          have hgl2 : gB.length ≤ 1048576 := by
            obtain ⟨_, _, _, h3, _⟩ := St.rdr ((st.tail.tail.tail) : St h0.size hq hp5 (rdrR S pr gB gE 0 :: _))
            have := S.hlim
            omega
          refine XR_nil ?_
          refine X_block ?_
          refine X_rangeS st rfl rfl (by kernel_rfl) fun fn tmps L y d hp1 hL hok hx1 st1 => ?_
          have st2 := (st1.nilrow 5 1).re 11 [5, 0, 4, 10, 9, 8, 7, 1, 6, 3, 2] (by decide)
          simp only [List.map_cons, List.map_nil, getR] at st2
          have st3 := (St.ex.2 ⟨Value.slice none 0 0, St.and.2 ⟨(by omega : (((0 - f : Nat) : Int)) < (nn : Int)), St.star.2 (by rw [show ((gB.take 0).drop f) = [] by simp]; exact st2)⟩⟩ : St h0.size hq hp1 ((exR fun v => andR ((((0 - f : Nat) : Int)) < (nn : Int)) (starR (pt p14 22 [v]) (row 5 1 v (((gB.take 0).drop f).map byteV)))) :: _)).re 10 [7, 8, 0, 1, 2, 3, 4, 5, 6, 9] (by decide)
          simp only [List.map_cons, List.map_nil, getR] at st3
          refine Ret.mono (all36_iter (B := h0.size) (y := y) (F := [obj d (.deferred (some []))]) (fun told => [exR fun v => andR ((((told - f : Nat) : Int)) < (nn : Int)) (starR (pt p14 22 [v]) (row 5 1 v (((gB.take told).drop f).map byteV))), pt p15 3 [nV told], pt p8 3 [nV f], pt p9 3 [nV nn], pt p10 22 [.slice none 0 0], pt p11 28 [nV 0], obj y (L .ready none)])
            (fun t => [exR fun (v : Option Addr × Nat × Nat) => andR (nn ≤ t - f) (starR (pt p10 22 [.slice v.1 nn nn]) (row 5 1 (.slice v.1 v.2.1 v.2.2) (((gB.take t).drop f).map byteV))), pt p11 28 [nV 0], obj y (L .done (some .ret))]) st3.here (by rw [hSb]; exact st1.low) (Nat.zero_le _) ?_) ?_
          · intro told A' n' c' F' h hlow hpos st2
            subst hL
            simp only [List.cons_append, List.nil_append] at st2
            obtain ⟨v, st2⟩ := St.ex.1 (st2.perm (List.Perm.swap _ _ _))
            obtain ⟨hlt, st2⟩ := St.and.1 st2
            replace st2 := St.star.1 st2
            obtain ⟨A5, n5, c5, rfl, hl5, _⟩ := st2.row 1 rfl
            obtain ⟨_, _, _, hee, hlc, hnc, _, hrc⟩ := st2.row 2 rfl
            obtain ⟨rfl, rfl, rfl⟩ := Value.slice.inj hee
            rw [List.length_map, List.length_drop, List.length_take, Nat.mul_one] at hl5
            obtain ⟨K, hK⟩ : ∃ K, min 100 (gB.length - told) = K := ⟨_, rfl⟩
            rw [hK] at st2 hlc hrc ⊢
            rw [List.length_map, List.length_take, List.length_drop, Nat.mul_one] at hlc
            obtain rfl : K = n' := by omega
            have hout := outP (gB := gB) (told := told) (K := K) (f := f) (by omega)
            refine rret_of_X (st2.obj_at 8 rfl) hok rfl rfl fun w0 hw0 => ?_
            simp only [penv]
            refine X_reg ?_
            refine XR_a (op_assign rfl) rfl rfl ?_
            refine XR_nil ?_
            refine X_begin (st2.obj_at 8 rfl) ?_
            have st := st2.loop 8 .busy none rfl
            simp only [List.set_cons_zero, List.set_cons_succ] at st
            refine X_block ?_
            refine X_seq ?_
            refine X_reg ?_
            refine XR_a (op_ld (st.cell 4 (i := 0) rfl rfl) rfl rfl rfl) rfl rfl ?_
            refine XR_a (op_ld (st.cell 3 (i := 0) rfl rfl) rfl rfl rfl) rfl rfl ?_
            refine XR_a (op_subI rfl rfl (by simp only [inK]; omega)) rfl rfl ?_
            refine XR_a (op_max2 rfl rfl) rfl rfl ?_
            refine XR_as (nV (f - told)) (congrArg (Value.int .i64) (by omega)) ?_
            refine XR_a (op_move rfl) rfl rfl ?_
            refine XR_a (op_len rfl rfl rfl) rfl rfl ?_
            refine XR_a (op_assign rfl) rfl rfl ?_
            refine XR_a (op_assign rfl) rfl rfl ?_
            refine XR_nil ?_
            refine X_seq ?_
            refine X_seq ?_
            refine X_reg ?_
            refine XR_a (op_move rfl) rfl rfl ?_
            refine XR_a (op_move rfl) rfl rfl ?_
            refine XR_a (op_lss rfl rfl) rfl rfl ?_
            refine XR_nil ?_
            refine X_if rfl (fun h => ?_) (fun h => ?_)
            · refine X_draw byKind (by kernel_rfl) (by kernel_rfl) ?_
              refine XR_a (op_ld (st.cell 0 (i := 0) rfl rfl) rfl rfl rfl) rfl rfl ?_
              refine XR_a (op_move rfl) rfl rfl ?_
              refine XR_a (op_move rfl) rfl rfl ?_
              refine XR_a (op_slice_l (l := f - told) rfl rfl rfl (by omega) (by omega)) rfl rfl ?_
              have hcut := ((st.rdS 2 rfl).2).cut (f - told) 1 c' (K - (f - told)) (by intro hh; simp; omega)
              rw [Nat.mul_one, ← List.map_drop, ← List.map_take, List.take_of_length_le (i := K - (f - told)) (by rw [List.length_drop, List.length_take, List.length_drop]; omega)] at hcut
              refine XR_wa (opl_append st 1 rfl (hcut) (by simp; omega) (one_bytes _) (by simp; omega) rfl rfl rfl rfl rfl rfl rfl) rfl rfl rfl fun v hp st => ?_
              simp only [List.set_cons_zero, List.set_cons_succ] at st
              rw [← List.map_append, ← hout] at st
              obtain ⟨A6, n6, c6, rfl, hlen6, _, _, _⟩ := st.row 1 rfl
              refine XR_wn (opl_store_pt st 0 rfl rfl rfl rfl rfl (rfl)) rfl rfl fun _ hp st => ?_
              simp only [List.set_cons_zero, List.set_cons_succ] at st
              refine XR_nil ?_
              refine X_seq ?_
              refine X_reg ?_
              refine XR_a (op_ld (st.cell 3 (i := 0) rfl rfl) rfl rfl rfl) rfl rfl ?_
              rw [List.length_map, List.length_drop, List.length_take, Nat.mul_one] at hlen6
              refine XR_a (op_move rfl) rfl rfl ?_
              refine XR_a (op_len rfl rfl rfl) rfl rfl ?_
              refine XR_a (op_addI rfl rfl (by simp only [inK]; omega)) rfl rfl ?_
              refine XR_as (nV (told + K)) (congrArg (Value.int .i64) (by omega)) ?_
              refine XR_wn (opl_store_pt st 3 rfl rfl rfl rfl rfl (rfl)) rfl rfl fun _ hp st => ?_
              simp only [List.set_cons_zero, List.set_cons_succ] at st
              refine XR_nil ?_
              refine X_seq ?_
              refine X_reg ?_
              refine XR_a (op_ld (st.cell 0 (i := 0) rfl rfl) rfl rfl rfl) rfl rfl ?_
              refine XR_a (op_len rfl rfl rfl) rfl rfl ?_
              refine XR_a (op_ld (st.cell 5 (i := 0) rfl rfl) rfl rfl rfl) rfl rfl ?_
              refine XR_a (op_geq rfl rfl) rfl rfl ?_
              refine XR_nil ?_
              refine X_if rfl (fun h => ?_) (fun h => ?_)
              · refine X_seq ?_
                refine X_reg ?_
                refine XR_a (op_ld (st.cell 0 (i := 0) rfl rfl) rfl rfl rfl) rfl rfl ?_
                refine XR_a (op_ld (st.cell 5 (i := 0) rfl rfl) rfl rfl rfl) rfl rfl ?_
                refine XR_a (op_ld (st.cell 5 (i := 0) rfl rfl) rfl rfl rfl) rfl rfl ?_
                refine XR_a (op_slice_h3 (h := nn) rfl rfl rfl rfl (by omega)) rfl rfl ?_
                refine XR_wn (opl_store_pt st 6 rfl rfl rfl rfl rfl (rfl)) rfl rfl fun _ hp st => ?_
                simp only [List.set_cons_zero, List.set_cons_succ] at st
                refine XR_wn (opl_store_pt st 7 rfl rfl rfl rfl rfl (rfl)) rfl rfl fun _ hp st => ?_
                simp only [List.set_cons_zero, List.set_cons_succ] at st
                refine XR_nil ?_
                refine X_rnd_ret (st.obj_at 8 rfl) ⟨false, rfl, fun hh => absurd hh Bool.false_ne_true, fun _ => ?_⟩
                replace st := st.loop 8 .done (some .ret) rfl
                simp only [List.set_cons_zero, List.set_cons_succ] at st
                have st4 := St.reF [_, _, _, _, _, _, _, _, _] 9 st [6, 1, 7, 8, 0, 2, 3, 4, 5] (by decide)
                simp only [List.map_cons, List.map_nil, getR, List.cons_append, List.nil_append] at st4
                have st5 := (St.ex.2 ⟨(_, _, _), St.and.2 ⟨(by omega : nn ≤ told + K - f), St.star.2 st4⟩⟩ : St h0.size _ _ ((exR fun (v : Option Addr × Nat × Nat) => andR (nn ≤ told + K - f) (starR (pt p10 22 [.slice v.1 nn nn]) (row 5 1 (.slice v.1 v.2.1 v.2.2) (((gB.take (told + K)).drop f).map byteV)))) :: _))
                exact St.reF [_, _, _] 3 (F := _) (St.reF [_, _, _, _, _, _, _, _] 8 st5 [3, 4, 5, 6, 7, 0, 1, 2] (by decide)).tail.tail.tail.tail.tail [0, 1, 2] (by decide)
              · refine X_skip ?_
                refine X_blk ?_
                refine X_rnd (st.obj_at 8 rfl) ⟨true, rfl, fun _ => ?_, fun hh => absurd hh.symm Bool.false_ne_true⟩
                replace st := st.loop 8 .ready none rfl
                simp only [List.set_cons_zero, List.set_cons_succ] at st
                have st4 := (St.reF [_, _, _, _, _, _, _, _, _] 9 st [2, 0, 1, 3, 4, 5, 6, 7, 8] (by decide)).tail
                simp only [List.map_cons, List.map_nil, getR, List.cons_append, List.nil_append] at st4
                exact St.ex.2 ⟨_, St.and.2 ⟨by omega, St.star.2 st4⟩⟩
            · rw [List.drop_of_length_le (l := (gB.drop told).take K) (by rw [List.length_take, List.length_drop]; omega), List.append_nil] at hout
              rw [← hout] at st
              obtain ⟨A6, n6, c6, hee6, hlen6, _, _, _⟩ := st.row 1 rfl
              obtain ⟨rfl, rfl, rfl⟩ := Value.slice.inj hee6
              refine X_skip ?_
              refine X_seq ?_
              refine X_reg ?_
              refine XR_a (op_ld (st.cell 3 (i := 0) rfl rfl) rfl rfl rfl) rfl rfl ?_
              rw [List.length_map, List.length_drop, List.length_take, Nat.mul_one] at hlen6
              refine XR_a (op_move rfl) rfl rfl ?_
              refine XR_a (op_len rfl rfl rfl) rfl rfl ?_
              refine XR_a (op_addI rfl rfl (by simp only [inK]; omega)) rfl rfl ?_
              refine XR_as (nV (told + K)) (congrArg (Value.int .i64) (by omega)) ?_
              refine XR_wn (opl_store_pt st 3 rfl rfl rfl rfl rfl (rfl)) rfl rfl fun _ hp st => ?_
              simp only [List.set_cons_zero, List.set_cons_succ] at st
              refine XR_nil ?_
              refine X_seq ?_
              refine X_reg ?_
              refine XR_a (op_ld (st.cell 0 (i := 0) rfl rfl) rfl rfl rfl) rfl rfl ?_
              refine XR_a (op_len rfl rfl rfl) rfl rfl ?_
              refine XR_a (op_ld (st.cell 5 (i := 0) rfl rfl) rfl rfl rfl) rfl rfl ?_
              refine XR_a (op_geq rfl rfl) rfl rfl ?_
              refine XR_nil ?_
              refine X_if rfl (fun h => ?_) (fun h => ?_)
              · refine X_seq ?_
                refine X_reg ?_
                refine XR_a (op_ld (st.cell 0 (i := 0) rfl rfl) rfl rfl rfl) rfl rfl ?_
                refine XR_a (op_ld (st.cell 5 (i := 0) rfl rfl) rfl rfl rfl) rfl rfl ?_
                refine XR_a (op_ld (st.cell 5 (i := 0) rfl rfl) rfl rfl rfl) rfl rfl ?_
                refine XR_a (op_slice_h3 (h := nn) rfl rfl rfl rfl (by omega)) rfl rfl ?_
                refine XR_wn (opl_store_pt st 6 rfl rfl rfl rfl rfl (rfl)) rfl rfl fun _ hp st => ?_
                simp only [List.set_cons_zero, List.set_cons_succ] at st
                refine XR_wn (opl_store_pt st 7 rfl rfl rfl rfl rfl (rfl)) rfl rfl fun _ hp st => ?_
                simp only [List.set_cons_zero, List.set_cons_succ] at st
                refine XR_nil ?_
                refine X_rnd_ret (st.obj_at 8 rfl) ⟨false, rfl, fun hh => absurd hh Bool.false_ne_true, fun _ => ?_⟩
                replace st := st.loop 8 .done (some .ret) rfl
                simp only [List.set_cons_zero, List.set_cons_succ] at st
                have st4 := St.reF [_, _, _, _, _, _, _, _, _] 9 st [6, 1, 7, 8, 0, 2, 3, 4, 5] (by decide)
                simp only [List.map_cons, List.map_nil, getR, List.cons_append, List.nil_append] at st4
                have st5 := (St.ex.2 ⟨(_, _, _), St.and.2 ⟨(by omega : nn ≤ told + K - f), St.star.2 st4⟩⟩ : St h0.size _ _ ((exR fun (v : Option Addr × Nat × Nat) => andR (nn ≤ told + K - f) (starR (pt p10 22 [.slice v.1 nn nn]) (row 5 1 (.slice v.1 v.2.1 v.2.2) (((gB.take (told + K)).drop f).map byteV)))) :: _))
                exact St.reF [_, _, _] 3 (F := _) (St.reF [_, _, _, _, _, _, _, _] 8 st5 [3, 4, 5, 6, 7, 0, 1, 2] (by decide)).tail.tail.tail.tail.tail [0, 1, 2] (by decide)
              · refine X_skip ?_
                refine X_blk ?_
                refine X_rnd (st.obj_at 8 rfl) ⟨true, rfl, fun _ => ?_, fun hh => absurd hh.symm Bool.false_ne_true⟩
                replace st := st.loop 8 .ready none rfl
                simp only [List.set_cons_zero, List.set_cons_succ] at st
                have st4 := (St.reF [_, _, _, _, _, _, _, _, _] 9 st [2, 0, 1, 3, 4, 5, 6, 7, 8] (by decide)).tail
                simp only [List.map_cons, List.map_nil, getR, List.cons_append, List.nil_append] at st4
                exact St.ex.2 ⟨_, St.and.2 ⟨by omega, St.star.2 st4⟩⟩
          rintro v h' st2
          rcases st2.symm with ⟨t, ht, st2⟩ | st2
          · simp only [List.cons_append, List.nil_append] at st2
            have st3 := (st1.trans st2).re 6 [4, 0, 1, 2, 3, 5] (by decide)
            simp only [List.map_cons, List.map_nil, getR] at st3
            refine .inr ⟨.ret, _, st3, fun hp3 st4 => ?_⟩
            have st5 := st4.re 6 [3, 0, 1, 2, 4, 5] (by decide)
            simp only [List.map_cons, List.map_nil, getR] at st5
            obtain ⟨⟨A9, n9, c9⟩, st5⟩ := St.ex.1 st5
            obtain ⟨hnt, st5⟩ := St.and.1 st5
            have st := St.star.1 st5
            have stp := st.put 6 (.deferred none) rfl
            refine X_retM (d := d) (.cons (RV1 rfl rfl (stp.cell 0 (i := 0) rfl rfl)) (.cons (RV1 rfl rfl (stp.cell 5 (i := 0) rfl rfl)) .nil)) ?_ (st.obj_at 6 rfl)
            rw [if_pos (by omega), Nat.min_eq_left (by omega)] at hP
            subst hP
            refine ⟨_, _, _, rfl, by rw [List.length_take, List.length_drop]; omega, Nat.le_refl _, ?_, hx0.trans stp.low⟩
            have hrr := ((stp.rdS 1 rfl).2).take nn
            rw [← List.map_take, outT hnt] at hrr
            exact hrr
          simp only [List.cons_append, List.nil_append] at st2
          have st3 := (st1.trans st2).re 10 [8, 0, 1, 2, 3, 4, 5, 6, 7, 9] (by decide)
          simp only [List.map_cons, List.map_nil, getR] at st3
          refine .inl ⟨_, st3, fun hp3 st4 => ?_⟩
          clear st2 st3
          have st5 := st4.re 10 [3, 1, 2, 0, 4, 5, 6, 7, 8, 9] (by decide)
          simp only [List.map_cons, List.map_nil, getR] at st5
          obtain ⟨v9, st5⟩ := St.ex.1 st5
          obtain ⟨hlt, st5⟩ := St.and.1 st5
          have st := (St.star.1 st5).re 11 [2, 0, 1, 3, 4, 5, 6, 7, 8, 9, 10] (by decide)
          simp only [List.map_cons, List.map_nil, getR] at st
          refine X_blk ?_
          refine X_seq ?_
          refine X_seq ?_
          refine X_reg ?_
          refine XR_a (op_move rfl) rfl rfl ?_
          refine XR_wa (opl_call (rnext_spec st.here (by rw [hSb]; exact st.low) (n := 1) (by simp only [inK]; omega)) rfl (by kernel_rfl)) rfl rfl rfl ?_
          rintro _ hp4 ⟨w4, rfl, st2⟩
          have hX : nextE gB gE gB.length 1 = gE := by unfold nextE; rw [if_neg (by omega), if_pos (Nat.le_refl _)]
          rw [hX]
          replace st := (st.trans st2).tail
          clear st2 hX
          obtain ⟨A9, n9, c9, rfl, hl9, hnc9, _, hr9⟩ := st.row 2 rfl
          rw [List.length_map, List.length_drop, List.length_take, Nat.mul_one] at hl9
          rw [if_neg (by omega)] at hP
          refine XR_a (op_move rfl) rfl rfl ?_
          refine XR_a (op_extract rfl rfl) rfl rfl ?_
          refine XR_a (op_extract rfl rfl) rfl rfl ?_
          refine XR_a (op_assign rfl) rfl rfl ?_
          refine XR_nil ?_
          refine X_seq ?_
          refine X_reg ?_
          refine XR_a (op_move rfl) rfl rfl ?_
          refine XR_a (op_neq rfl rfl) rfl rfl ?_
          refine XR_nil ?_
          refine X_if rfl (fun h => ?_) (fun h => ?_)
          · refine X_seq ?_
            refine X_reg ?_
            refine XR_a (op_move rfl) rfl rfl ?_
            refine XR_wn (opl_store_pt st 8 rfl rfl rfl rfl rfl (rfl)) rfl rfl fun _ hp st => ?_
            simp only [List.set_cons_zero, List.set_cons_succ] at st
            refine XR_wn (opl_store_pt st 9 rfl rfl rfl rfl rfl (rfl)) rfl rfl fun _ hp st => ?_
            simp only [List.set_cons_zero, List.set_cons_succ] at st
            refine XR_nil ?_
            have stp := st.put 10 (.deferred none) rfl
            refine X_retM (d := d) (.cons (RV1 rfl rfl (stp.cell 8 (i := 0) rfl rfl)) (.cons (RV1 rfl rfl (stp.cell 9 (i := 0) rfl rfl)) .nil)) ?_ (st.obj_at 10 rfl)
            rw [if_pos (by omega)] at hP
            subst hP
            exact ⟨_, _, _, rfl, rfl, Nat.le_refl _, Rd.nil _ _, hx0.trans stp.low⟩
          · refine X_skip ?_
            refine X_seq ?_
            refine X_reg ?_
            refine XR_a (op_ld (st.cell 1 (i := 0) rfl rfl) rfl rfl rfl) rfl rfl ?_
            refine XR_wn (opl_store_pt st 8 rfl rfl rfl rfl rfl (rfl)) rfl rfl fun _ hp st => ?_
            simp only [List.set_cons_zero, List.set_cons_succ] at st
            refine XR_wn (opl_store_pt st 9 rfl rfl rfl rfl rfl (rfl)) rfl rfl fun _ hp st => ?_
            simp only [List.set_cons_zero, List.set_cons_succ] at st
            refine XR_nil ?_
            have stp := st.put 10 (.deferred none) rfl
            refine X_retM (d := d) (.cons (RV1 rfl rfl (stp.cell 8 (i := 0) rfl rfl)) (.cons (RV1 rfl rfl (stp.cell 9 (i := 0) rfl rfl)) .nil)) ?_ (st.obj_at 10 rfl)
            rw [if_neg (by omega)] at hP
            have e : gB.drop (min f gB.length) = gB.drop f := by
              rcases Nat.le_total f gB.length with h9 | h9
              · rw [Nat.min_eq_left h9]
              · rw [Nat.min_eq_right h9, List.drop_of_length_le (Nat.le_refl _), List.drop_of_length_le h9]
            rw [e] at hP
            subst hP
            have hrr := (stp.rdS 2 rfl).2
            rw [List.take_length] at hrr
            exact ⟨_, _, _, rfl, by rw [List.length_drop]; omega, by omega, hrr, hx0.trans stp.low⟩
      · obtain ⟨rfl, st⟩ := hbad hN
        rw [if_pos hN] at hP
        subst hP
        refine XR_a (op_neq rfl rfl) rfl rfl ?_
        refine XR_as (.bool true) (congrArg Value.bool (decide_eq_true (by omega))) ?_
        refine XR_a (op_move rfl) rfl rfl ?_
        refine XR_no rfl rfl ?_
        refine XR_no rfl rfl ?_
        refine XR_a (op_pick_t rfl rfl) rfl rfl ?_
        refine XR_nil ?_
        refine X_then rfl ?_
        refine X_seq ?_
        refine X_reg ?_
        refine XR_a (op_move rfl) rfl rfl ?_
        refine XR_wn (opl_store_pt st 1 rfl rfl rfl rfl rfl (rfl)) rfl rfl fun _ hp st => ?_
        simp only [List.set_cons_zero, List.set_cons_succ] at st
        refine XR_wn (opl_store_pt st 0 rfl rfl rfl rfl rfl (rfl)) rfl rfl fun _ hp st => ?_
        simp only [List.set_cons_zero, List.set_cons_succ] at st
        refine XR_nil ?_
        refine X_ret ((.cons (RV1 rfl rfl (st.cell 1 (i := 0) rfl rfl)) (.cons (RV1 rfl rfl (st.cell 0 (i := 0) rfl rfl)) .nil))) ?_
        exact ⟨_, _, _, rfl, rfl, Nat.le_refl _, Rd.nil _ _, hx0.trans st.low⟩
theorem giv_le {mt size : Int} {l gB : List UInt8} {gE : Nat} (h : newE mt l size = 0) (g : Giv (mvOf mt l size) (atOf mt l) [] gB gE) (hl : l.length ≤ 1048576) : gB.length ≤ 1048576 := by
  unfold newE at h
  unfold mvOf atOf at g
  split at h
  · cases h
  · split at h
    · cases h
    · by_cases h0 : mt = 0
      · rw [if_pos h0, if_pos (.inl h0)] at g
        exact Nat.le_trans (g.pre (mvA_ok l) rfl).2 hl
      · by_cases h2 : mt = 2
        · rw [if_neg h0, if_pos h2, if_pos (.inr h2)] at g
          exact Nat.le_trans (g.pre (mvS_ok (l := l) (size := size.toNat)) ⟨Nat.zero_le _, Nat.zero_le _⟩).2 (by omega)
        · rw [if_neg (by omega)] at h
          obtain ⟨oka, okb, na, nb⟩ := codesT_ok h
          rw [if_neg h0, if_neg h2, if_neg (by omega)] at g
          exact Nat.le_trans (g.pre (mvP_ok oka okb) ⟨codesT_le h, Nat.zero_le _⟩).2 (by omega)
theorem readerPart_ret {m c : Nat} {mt size fr n : Int} {A : Option Addr} {l : List UInt8} {h0 : Heap} (hr : Rd h0 A (l.map byteV)) (hl : l.length = m) (hmc : m ≤ c) (hfr : inK .i64 fr) (hn : inK .i64 n) :
    Ret Try.prog 6 [.agg (payC mt size A m c).toArray, .int .i64 fr, .int .i64 n] h0 fun v h' => v = .bool true ∧ Ext h0 h' := by
  refine ret_of_X Try.func6 rfl rfl fun w0 hw0 => ?_
  simp only [argE, Nat.zero_add, Nat.reduceAdd]
  have st := St.start h0
  refine X_seq ?_
  refine X_reg ?_
  refine XR_wa (opl_bx (cs := payC mt size A m c) rfl rfl) rfl rfl rfl ?_
  rintro _ hp ⟨p2, rfl, hnew⟩
  replace st := st.new hnew
  refine XR_a (op_assign rfl) rfl rfl ?_
  refine XR_nil ?_
  refine X_seq ?_
  refine X_seq ?_
  refine X_reg ?_
  refine XR_a (op_ldA (vs := payC mt size A m c) (st.cells 0 rfl) rfl rfl rfl rfl) rfl rfl ?_
  refine XR_wa (opl_call (great36 _ _ _ _ _ _) rfl (by kernel_rfl)) rfl rfl rfl ?_
  rintro _ hp ⟨rfl, hx⟩
  replace st := st.ext hx
  refine XR_nil ?_
  refine X_if rfl (fun h => ?_) (fun h => ?_)
  · refine X_seq ?_
    refine X_reg ?_
    refine XR_wa (opl_call (lives36 _) rfl (by kernel_rfl)) rfl rfl rfl ?_
    rintro _ hp ⟨rfl, hx⟩
    refine XR_a (op_assign rfl) rfl rfl ?_
    refine XR_nil ?_
    refine X_ret (.cons (.tmp rfl) .nil) ?_
    exact ⟨rfl, Ext.trans st.low hx⟩
  · refine X_skip ?_
    refine X_seq ?_
    refine X_reg ?_
    first | refine XR_a (op_field0 rfl rfl) rfl rfl ?_ | refine XR_a (op_fieldn rfl rfl) rfl rfl ?_
    refine XR_a (op_ld (st.cell 0 (i := 0) rfl rfl) rfl rfl rfl) rfl rfl ?_
    first | refine XR_a (op_field0 rfl rfl) rfl rfl ?_ | refine XR_a (op_fieldn rfl rfl) rfl rfl ?_
    refine XR_a (op_ld (st.cell 0 (i := 1) rfl rfl) rfl rfl rfl) rfl rfl ?_
    first | refine XR_a (op_field0 rfl rfl) rfl rfl ?_ | refine XR_a (op_fieldn rfl rfl) rfl rfl ?_
    refine XR_a (op_ld (st.cell 0 (i := 2) rfl rfl) rfl rfl rfl) rfl rfl ?_
    obtain ⟨gB, gE, hg⟩ : ∃ gB gE, newE mt l size = 0 → Giv (mvOf mt l size) (atOf mt l) [] gB gE := by
      by_cases h9 : newE mt l size = 0
      · obtain ⟨a, b, g⟩ := giv_ex h9
        exact ⟨a, b, fun _ => g⟩
      · exact ⟨[], 0, fun hh => absurd hh h9⟩
    refine XR_a (op_move rfl) rfl rfl ?_
    refine XR_a (op_move rfl) rfl rfl ?_
    refine XR_wa (opl_call (rpart_spec (hr.ext st.low) hl (by omega) hmc hfr hn hg) rfl (by kernel_rfl)) rfl rfl rfl ?_
    rintro _ hp2 ⟨A1, g1, c1, rfl, hl1, hc1, hr1, hx1⟩
    have hx0 : Ext h0 hp2 := Ext.trans st.low hx1
    replace st := st.ext hx1
    refine XR_a (op_move rfl) rfl rfl ?_
    refine XR_a (op_extract rfl rfl) rfl rfl ?_
    refine XR_a (op_extract rfl rfl) rfl rfl ?_
    refine XR_a (op_assign rfl) rfl rfl ?_
    refine XR_a (op_assign rfl) rfl rfl ?_
    refine XR_nil ?_
    refine X_seq ?_
    refine X_reg ?_
    first | refine XR_a (op_field0 rfl rfl) rfl rfl ?_ | refine XR_a (op_fieldn rfl rfl) rfl rfl ?_
    refine XR_a (op_ld (st.cell 0 (i := 0) rfl rfl) rfl rfl rfl) rfl rfl ?_
    first | refine XR_a (op_field0 rfl rfl) rfl rfl ?_ | refine XR_a (op_fieldn rfl rfl) rfl rfl ?_
    refine XR_a (op_ld (st.cell 0 (i := 1) rfl rfl) rfl rfl rfl) rfl rfl ?_
    first | refine XR_a (op_field0 rfl rfl) rfl rfl ?_ | refine XR_a (op_fieldn rfl rfl) rfl rfl ?_
    refine XR_a (op_ld (st.cell 0 (i := 2) rfl rfl) rfl rfl rfl) rfl rfl ?_
    refine XR_wa (opl_call (gives_ref2 (St.start hp2) (Low.refl _ _) (fun h' hh => hr.ext (hx0.trans hh)) hl (by omega) hmc) rfl (by kernel_rfl)) rfl rfl rfl ?_
    rintro _ hp3 ⟨w, gE2, gB2, rfl, how, hG2, hgn, st⟩
    obtain ⟨Ag, ng, cg, rfl, hgl, hgc, hrg⟩ := st.gRes 0 rfl st.low
    have hlen : gB2.length ≤ 1048576 := by
      by_cases h9 : newE mt l size = 0
      · exact giv_le h9 (hG2 h9) (by omega)
      · rw [hgn h9]; exact Nat.zero_le _
    have hPe : partG (newE mt l size) gB gE fr n = partG (newE mt l size) gB2 gE2 fr n := by
      by_cases h9 : newE mt l size = 0
      · obtain ⟨rfl, rfl⟩ := (hg h9).det (hG2 h9)
        rfl
      · unfold partG
        rw [if_pos h9, if_pos h9]
    rw [hPe] at hl1 hr1 ⊢
    have hr1 := hr1.ext st.low
    refine XR_a (op_move rfl) rfl rfl ?_
    refine XR_a (op_move rfl) rfl rfl ?_
    refine XR_wa (opl_call (part36_ref hrg hgl hgc hfr hn (by omega)) rfl (by kernel_rfl)) rfl rfl rfl ?_
    rintro _ hp4 ⟨A2, g2, c2, rfl, hl2, hc2, hr2, hx4⟩
    replace st := st.ext hx4
    have hr1 := hr1.ext hx4
    obtain ⟨W, hW⟩ : ∃ W, partG (newE mt l size) gB2 gE2 fr n = W := ⟨_, rfl⟩
    rw [hW] at hl1 hr1 hl2 hr2 ⊢
    refine XR_a (op_move rfl) rfl rfl ?_
    refine XR_a (op_extract rfl rfl) rfl rfl ?_
    refine XR_a (op_extract rfl rfl) rfl rfl ?_
    refine XR_a (op_assign rfl) rfl rfl ?_
    refine XR_a (op_assign rfl) rfl rfl ?_
    refine XR_nil ?_
    refine X_seq ?_
    refine X_reg ?_
    refine XR_a (op_move rfl) rfl rfl ?_
    refine XR_a (op_str hr1 rfl hl1 rfl rfl rfl) rfl rfl ?_
    refine XR_a (op_move rfl) rfl rfl ?_
    refine XR_a (op_str hr2 rfl hl2 rfl rfl rfl) rfl rfl ?_
    refine XR_a (op_eqlS rfl rfl) rfl rfl ?_
    refine XR_as (.bool true) (congrArg Value.bool (decide_eq_true rfl)) ?_
    refine XR_a (op_move rfl) rfl rfl ?_
    refine XR_a (op_move rfl) rfl rfl ?_
    refine XR_a (op_move rfl) rfl rfl ?_
    refine XR_a (op_eql rfl rfl) rfl rfl ?_
    refine XR_as (.bool true) (congrArg Value.bool (decide_eq_true rfl)) ?_
    refine XR_a (op_pick_t rfl rfl) rfl rfl ?_
    refine XR_a (op_move rfl) rfl rfl ?_
    refine XR_wa (opl_call (lives36 _) rfl (by kernel_rfl)) rfl rfl rfl ?_
    rintro _ hp ⟨rfl, hx⟩
    refine XR_a (op_pick_t rfl rfl) rfl rfl ?_
    refine XR_a (op_assign rfl) rfl rfl ?_
    refine XR_nil ?_
    refine X_ret (.cons (.tmp rfl) .nil) ?_
    exact ⟨rfl, Ext.trans (hx0.trans st.low) hx⟩
end Go.Bn
end
