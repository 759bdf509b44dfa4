/- Packed texts of a claim: what its theorem uses, joined. -/
import Derived.OpenShut
import Derived.Test.YtoodeecmplpndaaGreatPkReaderSame17
section
set_option linter.unusedVariables false
set_option linter.unusedSimpArgs false
set_option maxHeartbeats 4000000
set_option maxRecDepth 20000
namespace Go.Bn
open Go Proofs
section
variable {P : Program} {E : Env} {hp : Heap} {cl : Cls} {d : Option Tmp} {ty : TypeId} {pos : String} {af : Array Edge} {g : Option (Nat × Bool)} {x y : Operand} {t t' : TypeId}
theorem op_slice_h3 {hi mx : Operand} {sz h n c : Nat} {k k' : IntKind} {A : Option Addr} (hx : ev E x = some (.slice A n c)) (hhi : ev E hi = some (.int k (h : Int))) (hmx : ev E mx = some (.int k' (h : Int))) (ht : sliceEl P t = some sz)
  (hhc : h ≤ c) : Op1 cl P ⟨d, .slice t x none (some hi) (some mx), ty, pos, af, g⟩ E hp (.slice A h h) :=
 .of_pure fun _ a ho w' => by
  obtain ⟨e, i, hu, hi', hs⟩ := sliceEl_spec ht
  have hhc' : (h : Int) ≤ (c : Int) := by omega
  have hz := cutA_zero A sz h
  unfold cutA at hz
  have : (Instr.sliceAt t (.slice A n c) none (some (.int k (h : Int))) (some (.int k' (h : Int)))).run P w' = .ok (.slice A h h) w' := by
   have e1 : (Instr.sliceAt t (.slice A n c) none (some (.int k (h : Int))) (some (.int k' (h : Int)))).run P w' = (Instr.slice t (.slice A n c) none (some (.int k (h : Int))) (some (.int k' (h : Int)))).run P w' := by
    simp [Instr.sliceAt, run_underlying hu]
   rw [e1]
   simp [Instr.slice, run_underlying hu, Instr.sliceBounds, Instr.sliceBound, asIntOf, sizeOf, typeInfo, hi', hs, hhc]
   simpa using hz
  simp [execOp, ho.eval hx, ho.eval hhi, ho.eval hmx, this]
end
theorem all36_iter {B y pq pr told0 gE : Nat} {S : Sou B} {gB : List UInt8} {F : List Res} {h0 : Heap} (JR JD : Nat → List Res) (st0 : St B h0 h0 (rdrR S pr gB gE told0 :: pt pq 110 [.pointer (some ⟨pr, 0, none⟩)] :: (JR told0 ++ F))) (hls : Low B S.hb h0) (ht0 : told0 ≤ gB.length)
  (hround : ∀ (told : Nat) (A' : Option Addr) (n' c' : Nat) (F' : List Res) (h : Heap), Low B h0 h → told < gB.length → St B h h (row 5 1 (.slice A' n' c') (((gB.drop told).take (min 100 (gB.length - told))).map byteV) :: (JR told ++ F')) →
   RRet Tryz.prog y [.slice A' n' c'] h fun v h' => ∃ b, v = .bool b ∧ (b = true → St B h h' (JR (told + min 100 (gB.length - told)) ++ F')) ∧ (b = false → St B h h' (JD (told + min 100 (gB.length - told)) ++ F'))) :
  Ret Tryz.prog 101 [.func (.yield y) #[] #[], .pointer (some ⟨pq, 0, none⟩)] h0
   fun _ h' => St B h0 h' (rdrR S pr gB gE gB.length :: pt pq 110 [.pointer (some ⟨pr, 0, none⟩)] :: (JR gB.length ++ F)) ∨ ∃ t, t ≤ gB.length ∧ St B h0 h' (rdrR S pr gB gE t :: pt pq 110 [.pointer (some ⟨pr, 0, none⟩)] :: (JD t ++ F)) := by
 refine ret_of_X Tryz.func101 rfl rfl fun w0 hw0 => ?_
 simp only [argE, Nat.zero_add, Nat.reduceAdd]
 refine X_block ?_
 refine X_loop (fun s => gB.length - s) (fun s => [(0, .func (.yield y) #[] #[]), (1, .pointer (some ⟨pq, 0, none⟩))])
  (fun (s : Nat) hp => s ≤ gB.length ∧ St B h0 hp (rdrR S pr gB gE s :: pt pq 110 [.pointer (some ⟨pr, 0, none⟩)] :: (JR s ++ F)))
  told0 (.cons rfl (.cons rfl (.nil _))) ⟨ht0, st0⟩ ?_
 rintro told hp ⟨ht, st⟩
 clear st0
 refine X_block (X_seq (X_reg ?_))
 refine XR_a (op_ld (st.cell 1 (i := 0) rfl rfl) rfl rfl rfl) rfl rfl ?_
 refine XR_wa (opl_call (rnext_spec st.here (hls.trans st.low) (n := 100) (by simp only [inK]; omega)) rfl (by kernel_rfl)) rfl rfl rfl ?_
 rintro _ hp4 ⟨w4, rfl, st2⟩
 replace st := st.trans st2
 clear st2
 have hK : nextK gB told 100 = min 100 (gB.length - told) := by unfold nextK; rw [if_neg (by omega)]; rfl
 rw [hK] at st
 obtain ⟨A4, n4, c4, rfl, hl4, _⟩ := st.row 0 rfl
 rw [List.length_map, List.length_take, List.length_drop, Nat.mul_one] at hl4
 refine XV rfl rfl rfl (XR_a (op_extract rfl rfl) rfl rfl (XR_a (op_extract rfl rfl) rfl rfl (XA rfl rfl rfl (XA rfl rfl rfl (XR_nil (X_seq (X_reg (XV rfl rfl rfl ?_))))))))
 refine XR_a (op_len rfl rfl rfl) rfl rfl ?_
 refine XR_a (op_eql rfl rfl) rfl rfl ?_
 refine XV rfl rfl rfl ?_
 refine XR_if 13 rfl (fun h => ?_) (fun h => ?_)
 ·refine XR_no rfl rfl (XR_no rfl rfl (XR_no rfl rfl (XR_no rfl rfl (XR_a (op_pick_t rfl rfl) rfl rfl (XR_nil (X_then rfl ?_))))))
  refine X_ret .nil ?_
  obtain rfl : told = gB.length := by omega
  replace st := st.tail
  rw [show gB.length - gB.length = 0 by omega, Nat.min_zero, Nat.add_zero] at st
  exact .inl st
 ·refine XV rfl rfl rfl (XV rfl rfl rfl ?_)
  refine XR_ya (opy_yield rfl (hround told A4 n4 c4 (rdrR S pr gB gE (told + min 100 (gB.length - told)) :: pt pq 110 [.pointer (some ⟨pr, 0, none⟩)] :: F) _ st.low (by omega) (st.here.perm (.cons _ (List.perm_append_comm_assoc [_, _] _ _)))) rfl) rfl rfl rfl ?_
  rintro _ hp5 ⟨b, rfl, hT, hF⟩
  first | refine XR_a (op_notd rfl) rfl rfl ?_ | refine XR_a (op_not rfl) rfl rfl ?_
  refine XR_as (.bool (decide (b = false))) (congrArg Value.bool (by cases b <;> rfl)) ?_
  refine XR_a (op_pick_f rfl rfl) rfl rfl (XR_nil ?_)
  refine X_if rfl (fun h => ?_) (fun h => ?_)
  ·refine X_ret .nil ?_
   have hb : b = false := h
   exact .inr ⟨told + min 100 (gB.length - told), by omega, (st.trans ((hF hb).perm (List.perm_append_comm_assoc _ [_, _] _)))⟩
  ·refine X_skip (X_blk ?_)
   have hb : b = true := by cases b <;> simp at h ⊢
   exact X_again (told + min 100 (gB.length - told)) (.cons rfl (.cons rfl (.nil _))) ⟨by omega, st.trans ((hT hb).perm (List.perm_append_comm_assoc _ [_, _] _))⟩ (by omega)
theorem RV1 {P : Program} {hp : Heap} {E : Env} {a : Tmp} {t : TypeId} {p : Nat} {v : Value} (h : E.get a = some (.pointer (some ⟨p, 0, none⟩))) (ht : single P t = true) (hc : cellH hp ⟨p, 0, none⟩ = some v) : RV P hp E (.cell a t) v :=
 .cell h fun w hw => run_loadVar_single ht (by rw [hw]; exact hc)
theorem outT {gB : List UInt8} {t f n : Nat} (h : n ≤ t - f) : ((gB.take t).drop f).take n = (gB.drop f).take n := by
 rw [List.drop_take, List.take_take, Nat.min_eq_left h]
theorem outP {gB : List UInt8} {told K f : Nat} (h : told ≤ gB.length) : (gB.take (told + K)).drop f = (gB.take told).drop f ++ ((gB.drop told).take K).drop (f - told) := by
 rw [List.take_add, List.drop_append, List.length_take, Nat.min_eq_left h]
theorem rdpart_spec {m c : Nat} {mt size fr n : Int} {A : Option Addr} {l gB : List UInt8} {gE : Nat} {h0 : Heap} (hr : Rd h0 A (l.map byteV)) (hl : l.length = m) (hm : m ≤ 1073741824) (hmc : m ≤ c) (hfr : inK .i64 fr) (hn : inK .i64 n)
  (hG : newE mt l size = 0 → Giv (mvOf mt l size) (atOf mt l) [] gB gE) :
  Ret Tryz.prog 32 [.int .i64 mt, .slice A m c, .int .i64 size, .int .i64 fr, .int .i64 n] h0 fun v h' => ∃ A' g' c', v = retVal [.slice A' g' c', nV (partG (newE mt l size) gB gE fr n).2] ∧ (partG (newE mt l size) gB gE fr n).1.length = g' ∧ g' ≤ c' ∧ Rd h' A' ((partG (newE mt l size) gB gE fr n).1.map byteV) ∧ Ext h0 h' := by
 obtain ⟨P, hP⟩ : ∃ P, partG (newE mt l size) gB gE fr n = P := ⟨_, rfl⟩
 rw [hP]
 unfold partG at hP
 simp only [inK] at hfr hn
 refine ret_of_X Tryz.func32 rfl rfl fun w0 hw0 => ?_
 simp only [argE, Nat.zero_add, Nat.reduceAdd]
 have st := St.start h0
 refine X_seq (X_reg ?_)
 refine XR_wa (opl_bx (cs := [.int .i64 fr]) rfl rfl) rfl rfl rfl ?_
 rintro _ hp ⟨p8, rfl, hnew⟩
 replace st := st.new hnew
 refine XR_wa (opl_bx (cs := [.int .i64 n]) rfl rfl) rfl rfl rfl ?_
 rintro _ hp ⟨p9, rfl, hnew⟩
 replace st := st.new hnew
 refine XR_wa (opl_new rfl) rfl rfl rfl ?_
 rintro _ hp ⟨p10, rfl, hnew⟩
 replace st := st.new hnew
 refine XR_wa (opl_new rfl) rfl rfl rfl ?_
 rintro _ hq ⟨p11, rfl, hnew⟩
 replace st := st.new hnew
 refine XR_nil (X_seq (X_seq (X_reg ?_)))
 refine XR_a (op_ld (st.cell 3 (i := 0) rfl rfl) rfl rfl rfl) rfl rfl ?_
 refine XR_a (op_lss rfl rfl) rfl rfl ?_
 refine XV rfl rfl rfl ?_
 refine XR_if 21 rfl (fun h => ?_) (fun h => ?_)
 ·refine XR_no rfl rfl (XR_no rfl rfl (XR_a (op_pick_t rfl rfl) rfl rfl (XR_nil (X_then rfl (X_seq (X_reg ?_))))))
  refine XR_wn (opl_store_pt st 1 rfl rfl rfl rfl rfl (rfl)) rfl rfl fun _ hp st => ?_
  simp only [List.set_cons_zero, List.set_cons_succ] at st
  refine XR_wn (opl_store_pt st 0 rfl rfl rfl rfl rfl (rfl)) rfl rfl fun _ hp st => ?_
  simp only [List.set_cons_zero, List.set_cons_succ] at st
  refine XR_nil ?_
  refine X_ret ((.cons (RV1 rfl rfl (st.cell 1 (i := 0) rfl rfl)) (.cons (RV1 rfl rfl (st.cell 0 (i := 0) rfl rfl)) .nil))) ?_
  rw [if_pos (by omega)] at hP
  subst hP
  exact ⟨_, _, _, rfl, rfl, Nat.le_refl _, Rd.nil _ _, st.low⟩
 ·refine XR_a (op_ld (st.cell 2 (i := 0) rfl rfl) rfl rfl rfl) rfl rfl ?_
  refine XR_a (op_lss rfl rfl) rfl rfl ?_
  refine XR_a (op_pick_f rfl rfl) rfl rfl (XR_nil ?_)
  refine X_if rfl (fun h => ?_) (fun h => ?_)
  ·refine X_seq (X_reg ?_)
   refine XR_wn (opl_store_pt st 1 rfl rfl rfl rfl rfl (rfl)) rfl rfl fun _ hp st => ?_
   simp only [List.set_cons_zero, List.set_cons_succ] at st
   refine XR_wn (opl_store_pt st 0 rfl rfl rfl rfl rfl (rfl)) rfl rfl fun _ hp st => ?_
   simp only [List.set_cons_zero, List.set_cons_succ] at st
   refine XR_nil ?_
   refine X_ret ((.cons (RV1 rfl rfl (st.cell 1 (i := 0) rfl rfl)) (.cons (RV1 rfl rfl (st.cell 0 (i := 0) rfl rfl)) .nil))) ?_
   rw [if_pos (by omega)] at hP
   subst hP
   exact ⟨_, _, _, rfl, rfl, Nat.le_refl _, Rd.nil _ _, st.low⟩
  ·rw [if_neg (by omega)] at hP
   obtain ⟨f, rfl⟩ : ∃ f : Nat, fr = (f : Int) := ⟨fr.toNat, by omega⟩
   obtain ⟨nn, rfl⟩ : ∃ f : Nat, n = (f : Int) := ⟨n.toNat, by omega⟩
   simp only [Int.toNat_natCast] at hP
   refine X_skip (X_seq (X_reg (XV rfl rfl rfl (XV rfl rfl rfl (XV rfl rfl rfl ?_)))))
   refine XR_wa (opl_call (rdnew_spec st.here (fun h' hh => hr.ext (st.low.trans hh)) hl hm hmc) rfl (by kernel_rfl)) rfl rfl rfl ?_
   rintro _ hp2 ⟨w, rfl, hbad, hgood⟩
   have hx0 := st.low
   refine XV rfl rfl rfl (XR_a (op_extract rfl rfl) rfl rfl (XR_a (op_extract rfl rfl) rfl rfl (XA rfl rfl rfl (XA rfl rfl rfl (XR_nil (X_seq (X_seq (X_reg (XV rfl rfl rfl ?_)))))))))
   by_cases hN : newE mt l size = 0
   ·obtain ⟨pr, S, rfl, hSb, hst⟩ := hgood hN
    have st := hst _ _ (hG hN)
    rw [hN] at hP ⊢
    rw [if_neg (fun hh => hh rfl)] at hP
    clear hbad hgood hst hG
    refine XR_a (op_neq rfl rfl) rfl rfl ?_
    refine XR_as (.bool false) (congrArg Value.bool (decide_eq_false (by simp))) ?_
    refine XV rfl rfl rfl ?_
    refine XR_a (op_ld (st.cell 3 (i := 0) rfl rfl) rfl rfl rfl) rfl rfl ?_
    refine XR_a (op_eql rfl rfl) rfl rfl ?_
    refine XR_a (op_pick_f rfl rfl) rfl rfl (XR_nil ?_)
    refine X_if rfl (fun h => ?_) (fun h => ?_)
    ·refine X_seq (X_reg (XV rfl rfl rfl ?_))
     refine XR_wn (opl_store_pt st 2 rfl rfl rfl rfl rfl (rfl)) rfl rfl fun _ hp st => ?_
     simp only [List.set_cons_zero, List.set_cons_succ] at st
     refine XR_wn (opl_store_pt st 1 rfl rfl rfl rfl rfl (rfl)) rfl rfl fun _ hp st => ?_
     simp only [List.set_cons_zero, List.set_cons_succ] at st
     refine XR_nil ?_
     refine X_ret ((.cons (RV1 rfl rfl (st.cell 2 (i := 0) rfl rfl)) (.cons (RV1 rfl rfl (st.cell 1 (i := 0) rfl rfl)) .nil))) ?_
     obtain rfl : nn = 0 := by omega
     rw [if_pos (by omega), List.take_zero] at hP
     subst hP
     exact ⟨_, _, _, rfl, rfl, Nat.le_refl _, Rd.nil _ _, hx0.trans st.low⟩
    ·refine X_skip (X_seq (X_reg ?_))
     refine XR_wa (opl_new rfl) rfl rfl rfl ?_
     rintro _ hp ⟨p14, rfl, hnew⟩
     replace st := st.new hnew
     refine XR_nil (X_seq (X_reg ?_))
     refine XR_wa (opl_new rfl) rfl rfl rfl ?_
     rintro _ hp ⟨p15, rfl, hnew⟩
     replace st := st.new hnew
     refine XR_wn (opl_store_pt st 0 rfl rfl rfl rfl rfl (rfl)) rfl rfl fun _ hp st => ?_
     simp only [List.set_cons_zero, List.set_cons_succ] at st
     refine XR_nil (X_seq (X_seq (X_reg (XV rfl rfl rfl ?_))))
     refine XR_wa (opl_call (rall_spec st.here) rfl (by kernel_rfl)) rfl rfl rfl ?_
     rintro _ hp5 ⟨pq, rfl, st2⟩
     replace st := st.trans st2
     clear st2
     have hgl2 : gB.length ≤ 1048576 := by
      obtain ⟨_, _, _, h3, _⟩ := St.rdr ((st.tail.tail.tail) : St h0.size hq hp5 (rdrR S pr gB gE 0 :: _))
      have := S.hlim
      omega
     refine XR_nil (X_block ?_)
     refine X_rangeS st rfl rfl (by kernel_rfl) fun fn tmps L y d hp1 hL hok hx1 st1 => ?_
     have st2 := (st1.nilrow 5 1).re 11 [5, 0, 4, 10, 9, 8, 7, 1, 6, 3, 2] (by decide)
     simp only [List.map_cons, List.map_nil, getR] at st2
     have st3 := (St.ex.2 ⟨Value.slice none 0 0, St.and.2 ⟨(by omega : (((0 - f : Nat) : Int)) < (nn : Int)), St.star.2 (by rw [show ((gB.take 0).drop f) = [] by simp]; exact st2)⟩⟩ : St h0.size hq hp1 ((exR fun v => andR ((((0 - f : Nat) : Int)) < (nn : Int)) (starR (pt p14 22 [v]) (row 5 1 v (((gB.take 0).drop f).map byteV)))) :: _)).re 10 [7, 8, 0, 1, 2, 3, 4, 5, 6, 9] (by decide)
     simp only [List.map_cons, List.map_nil, getR] at st3
     refine Ret.mono (all36_iter (B := h0.size) (y := y) (F := [obj d (.deferred (some []))]) (fun told => [exR fun v => andR ((((told - f : Nat) : Int)) < (nn : Int)) (starR (pt p14 22 [v]) (row 5 1 v (((gB.take told).drop f).map byteV))), pt p15 3 [nV told], pt p8 3 [nV f], pt p9 3 [nV nn], pt p10 22 [.slice none 0 0], pt p11 27 [nV 0], obj y (L .ready none)])
      (fun t => [exR fun (v : Option Addr × Nat × Nat) => andR (nn ≤ t - f) (starR (pt p10 22 [.slice v.1 nn nn]) (row 5 1 (.slice v.1 v.2.1 v.2.2) (((gB.take t).drop f).map byteV))), pt p11 27 [nV 0], obj y (L .done (some .ret))]) st3.here (by rw [hSb]; exact st1.low) (Nat.zero_le _) ?_) ?_
     ·intro told A' n' c' F' h hlow hpos st2
      subst hL
      simp only [List.cons_append, List.nil_append] at st2
      obtain ⟨v, st2⟩ := St.ex.1 (st2.perm (List.Perm.swap _ _ _))
      obtain ⟨hlt, st2⟩ := St.and.1 st2
      replace st2 := St.star.1 st2
      obtain ⟨A5, n5, c5, rfl, hl5, _⟩ := st2.row 1 rfl
      obtain ⟨_, _, _, hee, hlc, hnc, _, hrc⟩ := st2.row 2 rfl
      obtain ⟨rfl, rfl, rfl⟩ := Value.slice.inj hee
      rw [List.length_map, List.length_drop, List.length_take, Nat.mul_one] at hl5
      obtain ⟨K, hK⟩ : ∃ K, min 100 (gB.length - told) = K := ⟨_, rfl⟩
      rw [hK] at st2 hlc hrc ⊢
      rw [List.length_map, List.length_take, List.length_drop, Nat.mul_one] at hlc
      obtain rfl : K = n' := by omega
      have hout := outP (gB := gB) (told := told) (K := K) (f := f) (by omega)
      refine rret_of_X (st2.obj_at 8 rfl) hok rfl rfl fun w0 hw0 => ?_
      simp only [penv]
      refine X_reg (XA rfl rfl rfl (XR_nil ?_))
      refine X_begin (st2.obj_at 8 rfl) ?_
      have st := st2.loop 8 .busy none rfl
      simp only [List.set_cons_zero, List.set_cons_succ] at st
      refine X_block (X_seq (X_reg ?_))
      refine XR_a (op_ld (st.cell 4 (i := 0) rfl rfl) rfl rfl rfl) rfl rfl ?_
      refine XR_a (op_ld (st.cell 3 (i := 0) rfl rfl) rfl rfl rfl) rfl rfl ?_
      refine XR_a (op_subI rfl rfl (by simp only [inK]; omega)) rfl rfl ?_
      refine XR_a (op_max2 rfl rfl) rfl rfl ?_
      refine XR_as (nV (f - told)) (congrArg (Value.int .i64) (by omega)) ?_
      refine XV rfl rfl rfl ?_
      refine XR_a (op_len rfl rfl rfl) rfl rfl ?_
      refine XA rfl rfl rfl (XA rfl rfl rfl (XR_nil (X_seq (X_seq (X_reg (XV rfl rfl rfl (XV rfl rfl rfl ?_)))))))
      refine XR_a (op_lss rfl rfl) rfl rfl ?_
      refine XR_nil ?_
      refine X_if rfl (fun h => ?_) (fun h => ?_)
      ·refine X_draw byKind (by kernel_rfl) (by kernel_rfl) ?_
       refine XR_a (op_ld (st.cell 0 (i := 0) rfl rfl) rfl rfl rfl) rfl rfl ?_
       refine XV rfl rfl rfl (XV rfl rfl rfl ?_)
       refine XR_a (op_slice_l (l := f - told) rfl rfl rfl (by omega) (by omega)) rfl rfl ?_
       have hcut := ((st.rdS 2 rfl).2).cut (f - told) 1 c' (K - (f - told)) (by intro hh; simp; omega)
       rw [Nat.mul_one, ← List.map_drop, ← List.map_take, List.take_of_length_le (i := K - (f - told)) (by rw [List.length_drop, List.length_take, List.length_drop]; omega)] at hcut
       refine XR_wa (opl_append st 1 rfl (hcut) (by simp; omega) (one_bytes _) (by simp; omega) rfl rfl rfl rfl rfl rfl rfl) rfl rfl rfl fun v hp st => ?_
       simp only [List.set_cons_zero, List.set_cons_succ] at st
       rw [← List.map_append, ← hout] at st
       obtain ⟨A6, n6, c6, rfl, hlen6, _, _, _⟩ := st.row 1 rfl
       refine XR_wn (opl_store_pt st 0 rfl rfl rfl rfl rfl (rfl)) rfl rfl fun _ hp st => ?_
       simp only [List.set_cons_zero, List.set_cons_succ] at st
       refine XR_nil (X_seq (X_reg ?_))
       refine XR_a (op_ld (st.cell 3 (i := 0) rfl rfl) rfl rfl rfl) rfl rfl ?_
       rw [List.length_map, List.length_drop, List.length_take, Nat.mul_one] at hlen6
       refine XV rfl rfl rfl ?_
       refine XR_a (op_len rfl rfl rfl) rfl rfl ?_
       refine XR_a (op_addI rfl rfl (by simp only [inK]; omega)) rfl rfl ?_
       refine XR_as (nV (told + K)) (congrArg (Value.int .i64) (by omega)) ?_
       refine XR_wn (opl_store_pt st 3 rfl rfl rfl rfl rfl (rfl)) rfl rfl fun _ hp st => ?_
       simp only [List.set_cons_zero, List.set_cons_succ] at st
       refine XR_nil (X_seq (X_reg ?_))
       refine XR_a (op_ld (st.cell 0 (i := 0) rfl rfl) rfl rfl rfl) rfl rfl ?_
       refine XR_a (op_len rfl rfl rfl) rfl rfl ?_
       refine XR_a (op_ld (st.cell 5 (i := 0) rfl rfl) rfl rfl rfl) rfl rfl ?_
       refine XR_a (op_geq rfl rfl) rfl rfl ?_
       refine XR_nil ?_
       refine X_if rfl (fun h => ?_) (fun h => ?_)
       ·refine X_seq (X_reg ?_)
        refine XR_a (op_ld (st.cell 0 (i := 0) rfl rfl) rfl rfl rfl) rfl rfl ?_
        refine XR_a (op_ld (st.cell 5 (i := 0) rfl rfl) rfl rfl rfl) rfl rfl ?_
        refine XR_a (op_ld (st.cell 5 (i := 0) rfl rfl) rfl rfl rfl) rfl rfl ?_
        refine XR_a (op_slice_h3 (h := nn) rfl rfl rfl rfl (by omega)) rfl rfl ?_
        refine XR_wn (opl_store_pt st 6 rfl rfl rfl rfl rfl (rfl)) rfl rfl fun _ hp st => ?_
        simp only [List.set_cons_zero, List.set_cons_succ] at st
        refine XR_wn (opl_store_pt st 7 rfl rfl rfl rfl rfl (rfl)) rfl rfl fun _ hp st => ?_
        simp only [List.set_cons_zero, List.set_cons_succ] at st
        refine XR_nil ?_
        refine X_rnd_ret (st.obj_at 8 rfl) ⟨false, rfl, fun hh => absurd hh Bool.false_ne_true, fun _ => ?_⟩
        replace st := st.loop 8 .done (some .ret) rfl
        simp only [List.set_cons_zero, List.set_cons_succ] at st
        have st4 := St.reF [_, _, _, _, _, _, _, _, _] 9 st [6, 1, 7, 8, 0, 2, 3, 4, 5] (by decide)
        simp only [List.map_cons, List.map_nil, getR, List.cons_append, List.nil_append] at st4
        have st5 := (St.ex.2 ⟨(_, _, _), St.and.2 ⟨(by omega : nn ≤ told + K - f), St.star.2 st4⟩⟩ : St h0.size _ _ ((exR fun (v : Option Addr × Nat × Nat) => andR (nn ≤ told + K - f) (starR (pt p10 22 [.slice v.1 nn nn]) (row 5 1 (.slice v.1 v.2.1 v.2.2) (((gB.take (told + K)).drop f).map byteV)))) :: _))
        exact St.reF [_, _, _] 3 (F := _) (St.reF [_, _, _, _, _, _, _, _] 8 st5 [3, 4, 5, 6, 7, 0, 1, 2] (by decide)).tail.tail.tail.tail.tail [0, 1, 2] (by decide)
       ·refine X_skip (X_blk ?_)
        refine X_rnd (st.obj_at 8 rfl) ⟨true, rfl, fun _ => ?_, fun hh => absurd hh.symm Bool.false_ne_true⟩
        replace st := st.loop 8 .ready none rfl
        simp only [List.set_cons_zero, List.set_cons_succ] at st
        have st4 := (St.reF [_, _, _, _, _, _, _, _, _] 9 st [2, 0, 1, 3, 4, 5, 6, 7, 8] (by decide)).tail
        simp only [List.map_cons, List.map_nil, getR, List.cons_append, List.nil_append] at st4
        exact St.ex.2 ⟨_, St.and.2 ⟨by omega, St.star.2 st4⟩⟩
      ·rw [List.drop_of_length_le (l := (gB.drop told).take K) (by rw [List.length_take, List.length_drop]; omega), List.append_nil] at hout
       rw [← hout] at st
       obtain ⟨A6, n6, c6, hee6, hlen6, _, _, _⟩ := st.row 1 rfl
       obtain ⟨rfl, rfl, rfl⟩ := Value.slice.inj hee6
       refine X_skip (X_seq (X_reg ?_))
       refine XR_a (op_ld (st.cell 3 (i := 0) rfl rfl) rfl rfl rfl) rfl rfl ?_
       rw [List.length_map, List.length_drop, List.length_take, Nat.mul_one] at hlen6
       refine XV rfl rfl rfl ?_
       refine XR_a (op_len rfl rfl rfl) rfl rfl ?_
       refine XR_a (op_addI rfl rfl (by simp only [inK]; omega)) rfl rfl ?_
       refine XR_as (nV (told + K)) (congrArg (Value.int .i64) (by omega)) ?_
       refine XR_wn (opl_store_pt st 3 rfl rfl rfl rfl rfl (rfl)) rfl rfl fun _ hp st => ?_
       simp only [List.set_cons_zero, List.set_cons_succ] at st
       refine XR_nil (X_seq (X_reg ?_))
       refine XR_a (op_ld (st.cell 0 (i := 0) rfl rfl) rfl rfl rfl) rfl rfl ?_
       refine XR_a (op_len rfl rfl rfl) rfl rfl ?_
       refine XR_a (op_ld (st.cell 5 (i := 0) rfl rfl) rfl rfl rfl) rfl rfl ?_
       refine XR_a (op_geq rfl rfl) rfl rfl ?_
       refine XR_nil ?_
       refine X_if rfl (fun h => ?_) (fun h => ?_)
       ·refine X_seq (X_reg ?_)
        refine XR_a (op_ld (st.cell 0 (i := 0) rfl rfl) rfl rfl rfl) rfl rfl ?_
        refine XR_a (op_ld (st.cell 5 (i := 0) rfl rfl) rfl rfl rfl) rfl rfl ?_
        refine XR_a (op_ld (st.cell 5 (i := 0) rfl rfl) rfl rfl rfl) rfl rfl ?_
        refine XR_a (op_slice_h3 (h := nn) rfl rfl rfl rfl (by omega)) rfl rfl ?_
        refine XR_wn (opl_store_pt st 6 rfl rfl rfl rfl rfl (rfl)) rfl rfl fun _ hp st => ?_
        simp only [List.set_cons_zero, List.set_cons_succ] at st
        refine XR_wn (opl_store_pt st 7 rfl rfl rfl rfl rfl (rfl)) rfl rfl fun _ hp st => ?_
        simp only [List.set_cons_zero, List.set_cons_succ] at st
        refine XR_nil ?_
        refine X_rnd_ret (st.obj_at 8 rfl) ⟨false, rfl, fun hh => absurd hh Bool.false_ne_true, fun _ => ?_⟩
        replace st := st.loop 8 .done (some .ret) rfl
        simp only [List.set_cons_zero, List.set_cons_succ] at st
        have st4 := St.reF [_, _, _, _, _, _, _, _, _] 9 st [6, 1, 7, 8, 0, 2, 3, 4, 5] (by decide)
        simp only [List.map_cons, List.map_nil, getR, List.cons_append, List.nil_append] at st4
        have st5 := (St.ex.2 ⟨(_, _, _), St.and.2 ⟨(by omega : nn ≤ told + K - f), St.star.2 st4⟩⟩ : St h0.size _ _ ((exR fun (v : Option Addr × Nat × Nat) => andR (nn ≤ told + K - f) (starR (pt p10 22 [.slice v.1 nn nn]) (row 5 1 (.slice v.1 v.2.1 v.2.2) (((gB.take (told + K)).drop f).map byteV)))) :: _))
        exact St.reF [_, _, _] 3 (F := _) (St.reF [_, _, _, _, _, _, _, _] 8 st5 [3, 4, 5, 6, 7, 0, 1, 2] (by decide)).tail.tail.tail.tail.tail [0, 1, 2] (by decide)
       ·refine X_skip (X_blk ?_)
        refine X_rnd (st.obj_at 8 rfl) ⟨true, rfl, fun _ => ?_, fun hh => absurd hh.symm Bool.false_ne_true⟩
        replace st := st.loop 8 .ready none rfl
        simp only [List.set_cons_zero, List.set_cons_succ] at st
        have st4 := (St.reF [_, _, _, _, _, _, _, _, _] 9 st [2, 0, 1, 3, 4, 5, 6, 7, 8] (by decide)).tail
        simp only [List.map_cons, List.map_nil, getR, List.cons_append, List.nil_append] at st4
        exact St.ex.2 ⟨_, St.and.2 ⟨by omega, St.star.2 st4⟩⟩
     rintro v h' st2
     rcases st2.symm with ⟨t, ht, st2⟩ | st2
     ·simp only [List.cons_append, List.nil_append] at st2
      have st3 := (st1.trans st2).re 6 [4, 0, 1, 2, 3, 5] (by decide)
      simp only [List.map_cons, List.map_nil, getR] at st3
      refine .inr ⟨.ret, _, st3, fun hp3 st4 => ?_⟩
      have st5 := st4.re 6 [3, 0, 1, 2, 4, 5] (by decide)
      simp only [List.map_cons, List.map_nil, getR] at st5
      obtain ⟨⟨A9, n9, c9⟩, st5⟩ := St.ex.1 st5
      obtain ⟨hnt, st5⟩ := St.and.1 st5
      have st := St.star.1 st5
      have stp := st.put 6 (.deferred none) rfl
      refine X_retM (d := d) (.cons (RV1 rfl rfl (stp.cell 0 (i := 0) rfl rfl)) (.cons (RV1 rfl rfl (stp.cell 5 (i := 0) rfl rfl)) .nil)) ?_ (st.obj_at 6 rfl)
      rw [if_pos (by omega), Nat.min_eq_left (by omega)] at hP
      subst hP
      refine ⟨_, _, _, rfl, by rw [List.length_take, List.length_drop]; omega, Nat.le_refl _, ?_, hx0.trans stp.low⟩
      have hrr := ((stp.rdS 1 rfl).2).take nn
      rw [← List.map_take, outT hnt] at hrr
      exact hrr
     simp only [List.cons_append, List.nil_append] at st2
     have st3 := (st1.trans st2).re 10 [8, 0, 1, 2, 3, 4, 5, 6, 7, 9] (by decide)
     simp only [List.map_cons, List.map_nil, getR] at st3
     refine .inl ⟨_, st3, fun hp3 st4 => ?_⟩
     clear st2 st3
     have st5 := st4.re 10 [3, 1, 2, 0, 4, 5, 6, 7, 8, 9] (by decide)
     simp only [List.map_cons, List.map_nil, getR] at st5
     obtain ⟨v9, st5⟩ := St.ex.1 st5
     obtain ⟨hlt, st5⟩ := St.and.1 st5
     have st := (St.star.1 st5).re 11 [2, 0, 1, 3, 4, 5, 6, 7, 8, 9, 10] (by decide)
     simp only [List.map_cons, List.map_nil, getR] at st
     refine X_blk (X_seq (X_seq (X_reg (XV rfl rfl rfl ?_))))
     refine XR_wa (opl_call (rnext_spec st.here (by rw [hSb]; exact st.low) (n := 1) (by simp only [inK]; omega)) rfl (by kernel_rfl)) rfl rfl rfl ?_
     rintro _ hp4 ⟨w4, rfl, st2⟩
     have hX : nextE gB gE gB.length 1 = gE := by unfold nextE; rw [if_neg (by omega), if_pos (Nat.le_refl _)]
     rw [hX]
     replace st := (st.trans st2).tail
     clear st2 hX
     obtain ⟨A9, n9, c9, rfl, hl9, hnc9, _, hr9⟩ := st.row 2 rfl
     rw [List.length_map, List.length_drop, List.length_take, Nat.mul_one] at hl9
     rw [if_neg (by omega)] at hP
     refine XV rfl rfl rfl (XR_a (op_extract rfl rfl) rfl rfl (XR_a (op_extract rfl rfl) rfl rfl (XA rfl rfl rfl (XR_nil (X_seq (X_reg (XV rfl rfl rfl ?_)))))))
     refine XR_a (op_neq rfl rfl) rfl rfl ?_
     refine XR_nil ?_
     refine X_if rfl (fun h => ?_) (fun h => ?_)
     ·refine X_seq (X_reg (XV rfl rfl rfl ?_))
      refine XR_wn (opl_store_pt st 8 rfl rfl rfl rfl rfl (rfl)) rfl rfl fun _ hp st => ?_
      simp only [List.set_cons_zero, List.set_cons_succ] at st
      refine XR_wn (opl_store_pt st 9 rfl rfl rfl rfl rfl (rfl)) rfl rfl fun _ hp st => ?_
      simp only [List.set_cons_zero, List.set_cons_succ] at st
      refine XR_nil ?_
      have stp := st.put 10 (.deferred none) rfl
      refine X_retM (d := d) (.cons (RV1 rfl rfl (stp.cell 8 (i := 0) rfl rfl)) (.cons (RV1 rfl rfl (stp.cell 9 (i := 0) rfl rfl)) .nil)) ?_ (st.obj_at 10 rfl)
      rw [if_pos (by omega)] at hP
      subst hP
      exact ⟨_, _, _, rfl, rfl, Nat.le_refl _, Rd.nil _ _, hx0.trans stp.low⟩
     ·refine X_skip (X_seq (X_reg ?_))
      refine XR_a (op_ld (st.cell 1 (i := 0) rfl rfl) rfl rfl rfl) rfl rfl ?_
      refine XR_wn (opl_store_pt st 8 rfl rfl rfl rfl rfl (rfl)) rfl rfl fun _ hp st => ?_
      simp only [List.set_cons_zero, List.set_cons_succ] at st
      refine XR_wn (opl_store_pt st 9 rfl rfl rfl rfl rfl (rfl)) rfl rfl fun _ hp st => ?_
      simp only [List.set_cons_zero, List.set_cons_succ] at st
      refine XR_nil ?_
      have stp := st.put 10 (.deferred none) rfl
      refine X_retM (d := d) (.cons (RV1 rfl rfl (stp.cell 8 (i := 0) rfl rfl)) (.cons (RV1 rfl rfl (stp.cell 9 (i := 0) rfl rfl)) .nil)) ?_ (st.obj_at 10 rfl)
      rw [if_neg (by omega)] at hP
      have e : gB.drop (min f gB.length) = gB.drop f := by
       rcases Nat.le_total f gB.length with h9 | h9
       ·rw [Nat.min_eq_left h9]
       ·rw [Nat.min_eq_right h9, List.drop_of_length_le (Nat.le_refl _), List.drop_of_length_le h9]
      rw [e] at hP
      subst hP
      have hrr := (stp.rdS 2 rfl).2
      rw [List.take_length] at hrr
      exact ⟨_, _, _, rfl, by rw [List.length_drop]; omega, by omega, hrr, hx0.trans stp.low⟩
   ·obtain ⟨rfl, st⟩ := hbad hN
    rw [if_pos hN] at hP
    subst hP
    refine XR_a (op_neq rfl rfl) rfl rfl ?_
    refine XR_as (.bool true) (congrArg Value.bool (decide_eq_true (by omega))) ?_
    refine XV rfl rfl rfl (XR_no rfl rfl (XR_no rfl rfl (XR_a (op_pick_t rfl rfl) rfl rfl (XR_nil (X_then rfl (X_seq (X_reg (XV rfl rfl rfl ?_))))))))
    refine XR_wn (opl_store_pt st 1 rfl rfl rfl rfl rfl (rfl)) rfl rfl fun _ hp st => ?_
    simp only [List.set_cons_zero, List.set_cons_succ] at st
    refine XR_wn (opl_store_pt st 0 rfl rfl rfl rfl rfl (rfl)) rfl rfl fun _ hp st => ?_
    simp only [List.set_cons_zero, List.set_cons_succ] at st
    refine XR_nil ?_
    refine X_ret ((.cons (RV1 rfl rfl (st.cell 1 (i := 0) rfl rfl)) (.cons (RV1 rfl rfl (st.cell 0 (i := 0) rfl rfl)) .nil))) ?_
    exact ⟨_, _, _, rfl, rfl, Nat.le_refl _, Rd.nil _ _, hx0.trans st.low⟩
end Go.Bn
end

section
set_option linter.unusedVariables false
set_option linter.unusedSimpArgs false
set_option maxHeartbeats 4000000
set_option maxRecDepth 20000
namespace Go.Bn
open Go Proofs
theorem ccut_spec {n c : Nat} {A : Option Addr} {h0 : Heap} : Ret Tryz.prog 97 [.slice A n c] h0 fun v h' => ∃ p, v = .func (.func 131) #[] #[.pointer (some ⟨p, 0, none⟩)] ∧ St h0.size h0 h' [pt p 22 [.slice A n c]] := by
 refine ret_of_X Tryz.func97 rfl rfl fun w0 hw0 => ?_
 simp only [argE, Nat.zero_add, Nat.reduceAdd]
 have st := St.start h0
 refine X_seq (X_reg ?_)
 refine XR_wa (opl_bx rfl rfl) rfl rfl rfl ?_
 rintro _ hp ⟨p, rfl, hnew⟩
 have st := st.new hnew
 refine XA rfl rfl rfl (XR_nil (X_seq (X_reg ?_)))
 refine XR_a (op_mkFunc rfl) rfl rfl ?_
 refine XA rfl rfl rfl (XR_nil ?_)
 refine X_ret (.cons (.tmp rfl) .nil) ?_
 exact ⟨_, rfl, st⟩
theorem ccut_iter {B y p n c : Nat} {A : Option Addr} {b : List UInt8} {F : List Res} {h0 : Heap} (JR : List (List UInt8) → List Res) (hb : b.length = n) (hnc : n ≤ c) (hm : n ≤ 1099511627776)
  (hrd : ∀ h', Low B h0 h' → Rd h' A (b.map byteV)) (st0 : St B h0 h0 (pt p 22 [.slice A n c] :: (JR [] ++ F)))
  (hround : ∀ (s : List (List UInt8)) (x : List UInt8) (A' : Option Addr) (n' c' : Nat) (F' : List Res) (h : Heap), Low B h0 h → St B h h (JR s ++ F') → (∀ h', Low B h h' → Rd h' A' (x.map byteV)) → x.length = n' → n' ≤ c' → n' ≤ 65535 → s.length ≤ s.flatten.length → s.flatten.length + n' ≤ b.length →
   RRet Tryz.prog y [.slice A' n' c'] h fun v h' => v = .bool true ∧ St B h h' (JR (s ++ [x]) ++ F')) :
  Ret Tryz.prog 131 [.func (.yield y) #[] #[], .pointer (some ⟨p, 0, none⟩)] h0 fun _ h' => St B h0 h' (JR (chunks b) ++ F) := by
 refine ret_of_X Tryz.func131 rfl rfl fun w0 hw0 => ?_
 simp only [argE, Nat.zero_add, Nat.reduceAdd]
 refine X_block ?_
 refine X_loop (fun s => s.2.2.2.2.length) (fun s => [(0, .func (.yield y) #[] #[]), (1, .pointer (some ⟨p, 0, none⟩))])
  (fun (s : List (List UInt8) × Option Addr × Nat × Nat × List UInt8) hp => St B h0 hp (pt p 22 [.slice s.2.1 s.2.2.1 s.2.2.2.1] :: (JR s.1 ++ F)) ∧ (∀ h', Low B h0 h' → Rd h' s.2.1 (s.2.2.2.2.map byteV)) ∧ s.2.2.2.2.length = s.2.2.1 ∧ s.2.2.1 ≤ s.2.2.2.1 ∧
   s.1 ++ chunks s.2.2.2.2 = chunks b ∧ s.1.length ≤ s.1.flatten.length ∧ s.1.flatten.length + s.2.2.2.2.length = b.length)
  ([], A, n, c, b) (.cons rfl (.cons rfl (.nil _))) ⟨st0, hrd, hb, hnc, rfl, by simp, by simp⟩ ?_
 rintro ⟨s, A1, n1, c1, l⟩ hp ⟨st, hrd1, hl, hnc1, hs, hs1, hs2⟩
 simp only at st hrd1 hl hnc1 hs hs1 hs2 ⊢
 refine X_seq (X_seq (X_reg ?_))
 refine XR_a (op_ld (st.cell 0 (i := 0) rfl rfl) rfl rfl rfl) rfl rfl ?_
 refine XR_a (op_len rfl rfl rfl) rfl rfl ?_
 refine XR_a (op_gtr rfl rfl) rfl rfl ?_
 refine XR_nil ?_
 refine X_if rfl (fun h => ?_) (fun h => ?_)
 ·refine X_skip (X_block (X_seq (X_reg ?_)))
  refine XR_a (op_ld (st.cell 0 (i := 0) rfl rfl) rfl rfl rfl) rfl rfl ?_
  refine XR_a (op_len rfl rfl rfl) rfl rfl ?_
  refine XR_a (op_min2 rfl rfl) rfl rfl ?_
  refine XR_as (.int .i64 ((min n1 65535 : Nat) : Int)) (congrArg (Value.int .i64) (by omega)) ?_
  have hk1 : min n1 65535 ≤ n1 := Nat.min_le_left _ _
  have hk2 : min n1 65535 ≤ 65535 := Nat.min_le_right _ _
  have hk3 : 0 < min n1 65535 := by omega
  have htk : l.take (min n1 65535) = l.take 65535 := by
   rcases Nat.le_total n1 65535 with h9 | h9
   ·rw [Nat.min_eq_left h9, List.take_of_length_le (by omega), List.take_of_length_le (by omega)]
   ·rw [Nat.min_eq_right h9]
  have hdr : l.drop (min n1 65535) = l.drop 65535 := by
   rcases Nat.le_total n1 65535 with h9 | h9
   ·rw [Nat.min_eq_left h9, List.drop_of_length_le (by omega), List.drop_of_length_le (by omega)]
   ·rw [Nat.min_eq_right h9]
  have hch := chunks_cons (l := l) (by omega)
  rw [← htk, ← hdr] at hch
  generalize min n1 65535 = k at *
  refine XA rfl rfl rfl (XR_nil (X_seq (X_seq (X_reg (XV rfl rfl rfl ?_)))))
  refine XR_a (op_ld (st.cell 0 (i := 0) rfl rfl) rfl rfl rfl) rfl rfl ?_
  refine XV rfl rfl rfl ?_
  refine XR_a (op_slice_h rfl rfl rfl (by omega)) rfl rfl ?_
  rw [cutA_zero]
  refine XR_ya (opy_yield rfl (hround s (l.take k) A1 k c1 (pt p 22 [.slice A1 n1 c1] :: F) _ st.low (st.here.perm List.perm_middle.symm) (fun h' hl => by rw [List.map_take]; exact (hrd1 _ (st.low.trans hl)).take k) (by rw [List.length_take]; omega) (by omega) (by omega) hs1 (by omega)) rfl) rfl rfl rfl ?_
  rintro _ hp ⟨rfl, st2⟩
  replace st := st.trans (st2.perm List.perm_middle)
  first | refine XR_a (op_notd rfl) rfl rfl ?_ | refine XR_a (op_not rfl) rfl rfl ?_
  refine XR_nil (X_else rfl (X_skip (X_reg ?_)))
  refine XR_a (op_ld (st.cell 0 (i := 0) rfl rfl) rfl rfl rfl) rfl rfl ?_
  refine XV rfl rfl rfl ?_
  refine XR_a (op_slice_l rfl rfl rfl (by omega) (by omega)) rfl rfl ?_
  refine XR_wn (opl_store_pt st 0 rfl rfl rfl rfl rfl (rfl)) rfl rfl fun _ hp st => ?_
  simp only [List.set_cons_zero, List.set_cons_succ] at st
  refine XR_nil (X_blk ?_)
  refine X_again (s ++ [l.take k], cutA A1 k 1 c1, n1 - k, c1 - k, l.drop k) (.cons rfl (.cons rfl (.nil _))) ⟨st, fun h' hlow => ?_, ?_, ?_, ?_, ?_, ?_⟩ ?_
  ·have hcut := (hrd1 h' hlow).cut k 1 c1 (n1 - k) (by intro hh; simp; omega)
   rw [Nat.mul_one, ← List.map_drop, ← List.map_take, List.take_of_length_le (i := n1 - k) (by rw [List.length_drop]; omega)] at hcut
   exact hcut
  ·simp only [List.length_drop]; omega
  ·simp only; omega
  ·simp only; rw [← hs, hch]; simp
  ·simp only [List.flatten_append, List.flatten_cons, List.flatten_nil, List.append_nil, List.length_append, List.length_cons, List.length_nil, List.length_take]; omega
  ·simp only [List.flatten_append, List.flatten_cons, List.flatten_nil, List.append_nil, List.length_append, List.length_take, List.length_drop]; omega
  ·simp only [List.length_drop]; omega
 ·refine X_exit rfl ?_
  refine X_end .nil ?_
  have hl0 : l = [] := List.eq_nil_of_length_eq_zero (by omega)
  rw [hl0, chunks_nil, List.append_nil] at hs
  rw [← hs]
  exact st.tail
theorem piece_spec {n c : Nat} {A : Option Addr} {b : List UInt8} {h0 : Heap} (hr : Rd h0 A (b.map byteV)) (hb : b.length = n) (hnc : n ≤ c) (hm : n ≤ 68719476736) :
  Ret Tryz.prog 59 [.slice A n c] h0 fun v h' => St h0.size h0 h' [row 5 1 v ((pieceB b).map byteV)] := by
 refine ret_of_X Tryz.func59 rfl rfl fun w0 hw0 => ?_
 simp only [argE, Nat.zero_add, Nat.reduceAdd]
 have st := St.start h0
 refine X_seq (X_reg (XA rfl rfl rfl (XR_nil (X_seq (X_reg ?_)))))
 refine XR_wa (opl_new rfl) rfl rfl rfl ?_
 rintro _ hp ⟨p3, rfl, hnew⟩
 replace st := st.new hnew
 refine XR_nil (X_seq (X_seq (X_reg (XV rfl rfl rfl ?_))))
 refine XR_wa (opl_call (ccut_spec) rfl (by kernel_rfl)) rfl rfl rfl ?_
 rintro _ hp ⟨pc, rfl, st2⟩
 replace st := st.join st2
 simp only [List.cons_append, List.nil_append] at st
 refine XR_nil (X_block ?_)
 refine X_rangeS st rfl rfl (by kernel_rfl) fun fn tmps L y d hp1 hL hok hx1 st1 => ?_
 have st1' := (st1.nilrow 5 1).re 5 [4, 0, 3, 1, 2] (by decide)
 simp only [List.map_cons, List.map_nil, getR] at st1'
 have st2 := St.perm (St.ex.2 ⟨Value.slice none 0 0, St.star.2 st1'⟩ : St h0.size h0 hp1 ((exR fun v => starR (pt p3 22 [v]) (row 5 1 v ((pieceS []).map byteV))) :: _)) (List.Perm.swap _ _ _)
 refine Ret.mono (ccut_iter (B := h0.size) (y := y) (F := [obj d (.deferred (some []))]) (fun s => [exR fun v => starR (pt p3 22 [v]) (row 5 1 v ((pieceS s).map byteV)), obj y (L .ready none)]) hb hnc (by omega) (fun h' hlow => hr.ext (st1.low.trans hlow)) st2.here ?_) ?_
 ·intro s x A' n' c' F' h hlow st2 hrx hlx hnx hx16 hs1 hs2
  subst hL
  simp only [List.cons_append, List.nil_append] at st2
  obtain ⟨v, st2⟩ := St.ex.1 st2
  replace st2 := (St.star.1 st2)
  have hpl := pieceS_len s
  obtain ⟨A5, n5, c5, rfl, hlen5, _, _, _⟩ := st2.row 1 rfl
  refine rret_of_X (st2.obj_at 2 rfl) hok rfl rfl fun w0 hw0 => ?_
  simp only [penv]
  refine X_reg (XA rfl rfl rfl (XR_nil ?_))
  refine X_begin (st2.obj_at 2 rfl) ?_
  have st := st2.loop 2 .busy none rfl
  simp only [List.set_cons_zero, List.set_cons_succ] at st
  refine X_block (X_reg ?_)
  refine XR_a (op_ld (st.cell 0 (i := 0) rfl rfl) rfl rfl rfl) rfl rfl ?_
  refine XV rfl rfl rfl ?_
  refine XR_a (op_len rfl rfl rfl) rfl rfl ?_
  first | refine XR_a (op_convI rfl rfl (by simp only [inK]; omega)) rfl rfl ?_ | refine XR_a (op_convU rfl rfl rfl) rfl rfl ?_ | refine XR_a (op_conv rfl rfl) rfl rfl ?_
  refine XR_wa (opl_call (fput_spec (n := n') (st.here.perm (List.Perm.swap _ _ _)) (by omega) (by omega)) rfl (by kernel_rfl)) rfl rfl rfl ?_
  rintro v7 hp st3
  have st := (st.trans st3).perm (List.Perm.swap _ _ _)
  rw [wid2] at st
  refine XV rfl rfl rfl ?_
  refine XR_wa (opl_append st 1 rfl (hrx _ st.low) (by simpa using hlx) (one_bytes _) (by simp [leB_length]; omega) rfl rfl rfl rfl rfl rfl rfl) rfl rfl rfl fun v hp st => ?_
  simp only [List.set_cons_zero, List.set_cons_succ] at st
  rw [← List.map_append] at st
  obtain ⟨A6, n6, c6, rfl, hlen6, _, _, _⟩ := st.row 1 rfl
  refine XR_wn (opl_store_pt st 0 rfl rfl rfl rfl rfl (rfl)) rfl rfl fun _ hp st => ?_
  simp only [List.set_cons_zero, List.set_cons_succ] at st
  refine XR_nil (X_blk ?_)
  refine X_rnd (st.obj_at 2 rfl) ⟨rfl, ?_⟩
  replace st := st.loop 2 .ready none rfl
  simp only [List.set_cons_zero, List.set_cons_succ] at st
  rw [show pieceS s ++ leB 2 n' ++ x = pieceS (s ++ [x]) by rw [pieceS_snoc, hlx]] at st
  exact St.ex.2 ⟨_, St.star.2 st⟩
 rintro v h' st2
 simp only [List.cons_append, List.nil_append] at st2
 refine .inl ⟨_, (st1.trans st2).perm (List.Perm.swap _ _ _), fun hp3 st3 => ?_⟩
 obtain ⟨v9, st3⟩ := St.ex.1 (st3.perm (List.Perm.swap _ _ _))
 have st := St.star.1 st3
 refine X_blk (X_seq (X_reg ?_))
 refine XR_a (op_ld (st.cell 0 (i := 0) rfl rfl) rfl rfl rfl) rfl rfl ?_
 refine XA rfl rfl rfl (XR_nil ?_)
 refine X_retM (d := d) (.cons (.tmp rfl) .nil) ?_ (st.obj_at 3 rfl)
 replace st := st.put 3 (.deferred none) rfl
 exact st.tail.only
theorem pieceB_len (l : List UInt8) : (pieceB l).length ≤ 3 * l.length := by
 obtain ⟨h1, h2⟩ := chunks_ok l.length l (Nat.le_refl _)
 have h3 := flatten_len_ge (s := chunks l) fun x hx => (h2 x hx).1
 rw [h1] at h3
 simp only [pieceB, pieceS_len, h1]; omega
theorem stream_spec {m c : Nat} {A : Option Addr} {rs : List BR} {h0 : Heap} (hr : Rd h0 A (rs.map BR.v)) (hl : rs.length = m) (hok : ∀ b ∈ rs, b.ok h0) (hm : m ≤ 1099511627776) :
  Ret Tryz.prog 28 [.slice A m c] h0 fun v h' => ∃ v1, v = retVal [v1, .int .i64 (streamN (rs.map BR.l) 0 []).2] ∧ St h0.size h0 h' [row 5 1 v1 ((streamN (rs.map BR.l) 0 []).1.map byteV)] := by
 obtain ⟨R, hR⟩ : ∃ R, streamN (rs.map BR.l) 0 [] = R := ⟨_, rfl⟩
 rw [hR]
 refine ret_of_X Tryz.func28 rfl rfl fun w0 hw0 => ?_
 simp only [argE, Nat.zero_add, Nat.reduceAdd]
 refine X_seq (X_reg (XA rfl rfl rfl (XA rfl rfl rfl (XR_nil (X_seq (X_reg (XA rfl rfl rfl (XR_nil (X_seq ?_)))))))))
 refine X_reg (XA rfl rfl rfl (XR_nil (X_seq (X_seq (X_reg (XV rfl rfl rfl ?_))))))
 refine XR_a (op_len rfl rfl rfl) rfl rfl ?_
 refine XV rfl rfl rfl (XR_nil (X_block ?_))
 have st := (St.start h0).nilrow 5 1
 refine X_loop (fun s => m - s.1) (fun s => [(8, .slice A m c), (9, .int .i64 (m : Int)), (10, .int .i64 (s.1 : Int)), (4, s.2.2.1), (5, .int .i64 (s.2.1 : Int))])
  (fun (s : Nat × Nat × Value × List UInt8) hp => St h0.size h0 hp [row 5 1 s.2.2.1 (s.2.2.2.map byteV)] ∧ s.1 ≤ m ∧ s.2.1 ≤ 65536 ∧ s.2.2.2.length ≤ 3 * s.2.1 ∧ streamN ((rs.drop s.1).map BR.l) s.2.1 s.2.2.2 = R)
  (0, 0, _, []) (.cons rfl (.cons rfl (.cons rfl (.cons rfl (.cons rfl (.nil _)))))) ⟨st, by simp, by simp, by simp, hR⟩ ?_
 clear st
 rintro ⟨i, n, v, out⟩ hp ⟨st, hi, hn, hout, hS⟩
 simp only at st hi hn hout hS ⊢
 refine X_seq (X_reg ?_)
 refine XR_a (op_lss rfl rfl) rfl rfl ?_
 refine XR_nil (X_seq ?_)
 refine X_if rfl (fun h => ?_) (fun h => ?_)
 ·have him : i < rs.length := by omega
  obtain ⟨gb, o, rfl, hc⟩ := (hr.ext st.low).at_ (by rw [List.length_map]; omega)
  have hci := hc i (BR.v rs[i]) (by simp [him])
  have hbo := hok rs[i] (List.getElem_mem him)
  rw [List.drop_eq_getElem_cons him, List.map_cons, streamN] at hS
  have hpb := pieceB_len rs[i].l
  have hbl := hbo.len
  obtain ⟨b, hb⟩ : ∃ b, rs[i] = b := ⟨_, rfl⟩
  rw [hb] at hci hbo hS hpb hbl
  refine X_skip (X_seq (X_block (X_seq (X_reg ?_))))
  first | refine XR_a (op_index1 rfl rfl rfl (by omega)) rfl rfl ?_ | refine XR_a (op_index rfl rfl rfl (by omega)) rfl rfl ?_
  refine XR_a (op_ld (hci) rfl rfl rfl) rfl rfl ?_
  refine XA rfl rfl rfl (XR_nil (X_seq (X_seq (X_reg (XV rfl rfl rfl ?_)))))
  refine XR_a (op_len rfl rfl rfl) rfl rfl ?_
  refine XV rfl rfl rfl ?_
  refine XR_a (op_subN (m := 65536) (n := n) rfl rfl (by omega) (by simp only [inK]; omega)) rfl rfl ?_
  refine XR_a (op_gtr rfl rfl) rfl rfl ?_
  refine XR_nil ?_
  refine X_if rfl (fun h => ?_) (fun h => ?_)
  ·refine X_seq (X_reg (XA rfl rfl rfl (XA rfl rfl rfl (XR_nil ?_))))
   refine X_ret (.cons (.tmp rfl) (.cons (.tmp rfl) .nil)) ?_
   rw [if_pos (by omega)] at hS
   rw [← hS]
   exact ⟨_, rfl, (st.nilrow 5 1).only⟩
  ·rw [if_neg (by omega)] at hS
   refine X_skip (X_seq (X_reg (XV rfl rfl rfl (XV rfl rfl rfl ?_))))
   refine XR_a (op_len rfl rfl rfl) rfl rfl ?_
   first | refine XR_a (op_addN rfl rfl (by simp only [inK]; omega)) rfl rfl ?_ | refine XR_a (op_addI rfl rfl (by simp only [inK]; omega)) rfl rfl ?_ | refine XR_a (op_add rfl rfl) rfl rfl ?_
   refine XA rfl rfl rfl (XR_nil (X_reg (XV rfl rfl rfl (XV rfl rfl rfl ?_))))
   refine XR_wa (opl_call (piece_spec (hbo.rd.ext st.low) hbl hbo.le (by omega)) rfl (by kernel_rfl)) rfl rfl rfl ?_
   rintro v2 hp st2
   obtain ⟨A2, n2, c2, rfl, hlen2, _, _, hrd2⟩ := st2.row 0 rfl
   replace st := st.ext st2.low
   refine XR_wa (opl_append st 0 rfl (hrd2) (by simpa using hlen2) (one_bytes _) (by simp; omega) rfl rfl rfl rfl rfl rfl rfl) rfl rfl rfl fun v hp st => ?_
   simp only [List.set_cons_zero, List.set_cons_succ] at st
   rw [← List.map_append] at st
   refine XA rfl rfl rfl (XR_nil (X_blk (X_reg ?_)))
   first | refine XR_a (op_addN (n := 1) rfl rfl (by simp only [inK]; omega)) rfl rfl ?_ | refine XR_a (op_addI rfl rfl (by simp only [inK]; omega)) rfl rfl ?_ | refine XR_a (op_add rfl rfl) rfl rfl ?_
   refine XV rfl rfl rfl (XR_nil ?_)
   exact X_again (i + 1, n + b.l.length, v, out ++ pieceB b.l) (.cons rfl (.cons rfl (.cons rfl (.cons rfl (.cons (by rw [hbl]; rfl) (.nil _)))))) ⟨st, by simp only; omega, by simp only; omega, by simp only [List.length_append]; omega, hS⟩ (by simp only; omega)
 ·obtain rfl : i = m := by omega
  rw [List.drop_of_length_le (by omega), List.map_nil, streamN] at hS
  refine X_exit rfl (X_seq (X_reg (XV rfl rfl rfl ?_)))
  refine XR_wa (opl_call (fput_spec (n := 0) st.here (by omega) (by omega)) rfl (by kernel_rfl)) rfl rfl rfl ?_
  rintro v2 hp st2
  replace st := st.trans st2
  rw [wid2] at st
  refine XA rfl rfl rfl (XA rfl rfl rfl (XR_nil ?_))
  refine X_ret (.cons (.tmp rfl) (.cons (.tmp rfl) .nil)) ?_
  rw [← hS]
  exact ⟨_, rfl, st⟩
end Go.Bn
end

section
set_option linter.unusedVariables false
set_option linter.unusedSimpArgs false
set_option maxHeartbeats 4000000
set_option maxRecDepth 20000
namespace Go.Bn
open Go Proofs
theorem giv_some (mt size : Int) (l : List UInt8) : ∃ gB gE, newE mt l size = 0 → Giv (mvOf mt l size) (atOf mt l) [] gB gE := by
 by_cases h9 : newE mt l size = 0
 ·obtain ⟨a, b, g⟩ := giv_ex h9
  exact ⟨a, b, fun _ => g⟩
 ·exact ⟨[], 0, fun hh => absurd hh h9⟩
theorem part_same {d : List UInt8} {f : Nat} {n : Int} (hf : f ≤ d.length) (hn : 1 ≤ n) : partG 0 d 0 (f : Int) n = (if n < ((d.length - f : Nat) : Int) then (d.drop f).take n.toNat else d.drop f, 0) := by
 unfold partG
 rw [if_neg (by omega), if_neg (by omega)]
 have hm : min (f : Int).toNat d.length = f := by omega
 rw [hm]
 by_cases h : n < ((d.length - f : Nat) : Int)
 ·rw [if_pos (by omega), if_pos h]
 ·rw [if_neg h]
  by_cases h2 : n ≤ (d.length : Int) - min (f : Int) d.length
  ·rw [if_pos h2, List.take_of_length_le (by rw [List.length_drop]; omega)]
  ·rw [if_neg h2, if_neg (by omega)]
theorem readerSame_ret {m c m2 c2 : Nat} {mt size x0 x1 x2 : Int} {A A2 : Option Addr} {l d : List UInt8} {h0 : Heap} (hr : Rd h0 A (l.map byteV)) (hl : l.length = m) (hmc : m ≤ c) (hr2 : Rd h0 A2 (d.map byteV)) (hl2 : d.length = m2) (hmc2 : m2 ≤ c2) (hcm : c2 ≤ maxLen)
  (i0 : inK .i64 x0) (i1 : inK .i64 x1) (i2 : inK .i64 x2) :
  Ret Tryz.prog 8 [.agg (payC mt size A m c).toArray, .slice A2 m2 c2, .agg #[.int .i64 x0, .int .i64 x1, .int .i64 x2]] h0 fun v h' => v = .bool true ∧ Ext h0 h' := by
 refine ret_of_X Tryz.func8 rfl rfl fun w0 hw0 => ?_
 simp only [argE, Nat.zero_add, Nat.reduceAdd]
 have st := St.start h0
 refine X_seq (X_reg ?_)
 refine XR_wa (opl_bx (cs := payC mt size A m c) rfl rfl) rfl rfl rfl ?_
 rintro _ hp ⟨p3, rfl, hnew⟩
 replace st := st.new hnew
 refine XR_wa (opl_bx (cs := [.int .i64 x0, .int .i64 x1, .int .i64 x2]) rfl rfl) rfl rfl rfl ?_
 rintro _ hp ⟨p5, rfl, hnew⟩
 replace st := st.new hnew
 refine XA rfl rfl rfl (XR_nil (X_seq (X_seq (X_reg ?_))))
 refine XR_a (op_ldA (vs := payC mt size A m c) (st.cells 1 rfl) rfl rfl rfl rfl) rfl rfl ?_
 refine XR_wa (opl_call (great36 _ _ _ _ _ _) rfl (by kernel_rfl)) rfl rfl rfl ?_
 rintro _ hp ⟨rfl, hx⟩
 replace st := st.ext hx
 refine XV rfl rfl rfl ?_
 refine XR_if 26 rfl (fun h => ?_) (fun h => ?_)
 ·refine XR_no rfl rfl (XR_no rfl rfl (XR_no rfl rfl (XR_a (op_pick_t rfl rfl) rfl rfl (XV rfl rfl rfl (XR_no rfl rfl (XR_no rfl rfl (XR_no rfl rfl (XR_a (op_pick_t rfl rfl) rfl rfl (XR_nil ?_)))))))))
  refine X_then rfl (X_seq (X_reg ?_))
  refine XR_wa (opl_call (lives36 _) rfl (by kernel_rfl)) rfl rfl rfl ?_
  rintro _ hp ⟨rfl, hx⟩
  refine XA rfl rfl rfl (XR_nil ?_)
  refine X_ret (.cons (.tmp rfl) .nil) ?_
  exact ⟨rfl, Ext.trans st.low hx⟩
 ·refine XV rfl rfl rfl ?_
  refine XR_a (op_len rfl rfl rfl) rfl rfl ?_
  refine XR_a (op_gtr rfl rfl) rfl rfl ?_
  refine XR_a (op_pick_f rfl rfl) rfl rfl (XV rfl rfl rfl ?_)
  refine XR_if 31 rfl (fun h => ?_) (fun h => ?_)
  ·refine XR_no rfl rfl (XR_no rfl rfl (XR_no rfl rfl (XR_a (op_pick_t rfl rfl) rfl rfl (XR_nil (X_then rfl (X_seq (X_reg ?_)))))))
   refine XR_wa (opl_call (lives36 _) rfl (by kernel_rfl)) rfl rfl rfl ?_
   rintro _ hp ⟨rfl, hx⟩
   refine XA rfl rfl rfl (XR_nil ?_)
   refine X_ret (.cons (.tmp rfl) .nil) ?_
   exact ⟨rfl, Ext.trans st.low hx⟩
  ·refine XR_a (op_indexA1 (i := 0) rfl rfl rfl (by omega)) rfl rfl ?_
   refine XR_a (op_ld (st.cell 0 (i := 0) rfl rfl) rfl rfl rfl) rfl rfl ?_
   refine XR_a (op_lss rfl rfl) rfl rfl ?_
   refine XR_a (op_pick_f rfl rfl) rfl rfl (XR_nil ?_)
   refine X_if rfl (fun h => ?_) (fun h => ?_)
   ·refine X_seq (X_reg ?_)
    refine XR_wa (opl_call (lives36 _) rfl (by kernel_rfl)) rfl rfl rfl ?_
    rintro _ hp ⟨rfl, hx⟩
    refine XA rfl rfl rfl (XR_nil ?_)
    refine X_ret (.cons (.tmp rfl) .nil) ?_
    exact ⟨rfl, Ext.trans st.low hx⟩
   ·have h1500 : m ≤ 1500 := by omega
    have h2000 : m2 ≤ 2000 := by omega
    have hx01 : 1 ≤ x0 := by omega
    clear hx
    have hx0 : Ext h0 hp := st.low
    have c50 := st.cell 0 (i := 0) rfl rfl
    have c51 := st.cell 0 (i := 1) rfl rfl
    have c52 := st.cell 0 (i := 2) rfl rfl
    have c30 := st.cell 1 (i := 0) rfl rfl
    have c31 := st.cell 1 (i := 1) rfl rfl
    have c32 := st.cell 1 (i := 2) rfl rfl
    have hr := hr.ext hx0
    have hr2 := hr2.ext hx0
    clear st
    have st := St.start hp
    refine X_skip (X_seq (X_reg ?_))
    first | refine XR_a (op_field0 rfl rfl) rfl rfl ?_ | refine XR_a (op_fieldn rfl rfl) rfl rfl ?_
    refine XR_a (op_ld (cellH_ext st.low c30) rfl rfl rfl) rfl rfl ?_
    first | refine XR_a (op_field0 rfl rfl) rfl rfl ?_ | refine XR_a (op_fieldn rfl rfl) rfl rfl ?_
    refine XR_a (op_ld (cellH_ext st.low c31) rfl rfl rfl) rfl rfl ?_
    first | refine XR_a (op_field0 rfl rfl) rfl rfl ?_ | refine XR_a (op_fieldn rfl rfl) rfl rfl ?_
    refine XR_a (op_ld (cellH_ext st.low c32) rfl rfl rfl) rfl rfl ?_
    refine XR_wa (opl_call (cunpack_spec hr hl (by omega) hmc) rfl (by kernel_rfl)) rfl rfl rfl ?_
    rintro _ hp2 ⟨w7, rfl, st2⟩
    replace st := st.join st2
    simp only [List.cons_append, List.nil_append] at st
    clear st2
    obtain ⟨gB, gE, hg⟩ := giv_some mt size l
    obtain ⟨hw1, hw2⟩ := whole_giv hx01 hg
    refine XV rfl rfl rfl (XR_a (op_extract rfl rfl) rfl rfl (XR_a (op_extract rfl rfl) rfl rfl (XA rfl rfl rfl (XA rfl rfl rfl (XR_nil (X_seq (X_reg ?_)))))))
    first | refine XR_a (op_field0 rfl rfl) rfl rfl ?_ | refine XR_a (op_fieldn rfl rfl) rfl rfl ?_
    refine XR_a (op_ld (cellH_ext st.low c30) rfl rfl rfl) rfl rfl ?_
    first | refine XR_a (op_field0 rfl rfl) rfl rfl ?_ | refine XR_a (op_fieldn rfl rfl) rfl rfl ?_
    refine XR_a (op_ld (cellH_ext st.low c31) rfl rfl rfl) rfl rfl ?_
    first | refine XR_a (op_field0 rfl rfl) rfl rfl ?_ | refine XR_a (op_fieldn rfl rfl) rfl rfl ?_
    refine XR_a (op_ld (cellH_ext st.low c32) rfl rfl rfl) rfl rfl ?_
    refine XR_a (op_indexA1 (i := 0) rfl rfl rfl (by omega)) rfl rfl ?_
    refine XR_a (op_ld (cellH_ext st.low c50) rfl rfl rfl) rfl rfl ?_
    refine XR_wa (opl_call (rwhole_spec (St.start _) (fun h' hh => hr.ext (Ext.trans st.low hh)) hl (by omega) hmc i0 hg) rfl (by kernel_rfl)) rfl rfl rfl ?_
    rintro _ hp3 ⟨w9, rfl, st2⟩
    rw [hw2] at st2
    replace st := st.join st2
    simp only [List.cons_append, List.nil_append] at st
    clear st2 hg
    obtain ⟨U, hU⟩ : ∃ U, unpackU mt l size = U := ⟨_, rfl⟩
    obtain ⟨W, hW⟩ : ∃ W, wholeG (newE mt l size) gB gE x0 = W := ⟨_, rfl⟩
    rw [hU] at st hw1 ⊢
    rw [hW] at hw1 ⊢
    obtain ⟨A7, n7, c7, rfl, hl7, _, _, hr7⟩ := st.row 1 rfl
    obtain ⟨A9, n9, c9, rfl, hl9, _, _, hr9⟩ := st.row 0 rfl
    rw [List.length_map, Nat.mul_one] at hl7 hl9
    refine XV rfl rfl rfl (XR_a (op_extract rfl rfl) rfl rfl (XR_a (op_extract rfl rfl) rfl rfl (XA rfl rfl rfl (XA rfl rfl rfl (XR_nil (X_seq (X_seq (X_reg (XV rfl rfl rfl ?_)))))))))
    refine XR_a (op_eql rfl rfl) rfl rfl ?_
    refine XV rfl rfl rfl ?_
    refine XR_a (op_eql rfl rfl) rfl rfl ?_
    refine XR_a (op_neqB rfl rfl rfl) rfl rfl ?_
    refine XR_as (.bool false) (congrArg Value.bool (decide_eq_false (fun hh => hh (decide_eq_decide.2 ⟨fun h9 => by have := hw1.2 (by omega); omega, fun h9 => by have := hw1.1 (by omega); omega⟩)))) ?_
    refine XV rfl rfl rfl (XV rfl rfl rfl ?_)
    refine XR_a (op_str hr7 rfl hl7 rfl rfl rfl) rfl rfl ?_
    refine XV rfl rfl rfl ?_
    refine XR_a (op_str hr9 rfl hl9 rfl rfl rfl) rfl rfl ?_
    refine XR_a (op_neqS rfl rfl) rfl rfl ?_
    refine XR_as (.bool false) (congrArg Value.bool (decide_eq_false (fun hh => hh rfl))) ?_
    refine XR_a (op_pick_f rfl rfl) rfl rfl (XR_nil (X_else rfl (X_skip (X_seq (X_reg (XV rfl rfl rfl ?_))))))
    refine XR_a (op_indexA1 (i := 1) rfl rfl rfl (by omega)) rfl rfl ?_
    refine XR_a (op_ld (cellH_ext st.low c51) rfl rfl rfl) rfl rfl ?_
    refine XR_wa (opl_call (cpack_spec (lv := x1) (hr2.ext st.low) hl2 (by omega)) rfl (by kernel_rfl)) rfl rfl rfl ?_
    rintro _ hp4 ⟨w12, rfl, st2⟩
    replace st := (st.drop).join st2
    simp only [List.append_nil] at st
    clear st2
    obtain ⟨hb1, hb2⟩ := pack_back (b := d) x1 (by omega)
    have hpl := packP_len (b := d) x1
    obtain ⟨K, hK⟩ : ∃ K, packP d x1 = K := ⟨_, rfl⟩
    rw [hK] at st hb1 hpl ⊢
    clear hb2
    rw [hl2] at hb1
    obtain ⟨A12, n12, c12, rfl, hl12, hn12, _, hr12⟩ := st.row 0 rfl
    rw [List.length_map, Nat.mul_one] at hl12
    refine XV rfl rfl rfl (XR_a (op_extract rfl rfl) rfl rfl (XR_a (op_extract rfl rfl) rfl rfl (XR_a (op_extract rfl rfl) rfl rfl (XA rfl rfl rfl (XA rfl rfl rfl (XA rfl rfl rfl (XR_nil (X_seq (X_reg ?_)))))))))
    refine XV rfl rfl rfl (XV rfl rfl rfl ?_)
    refine XR_wa (opl_lits [.slice A2 m2 c2, .slice A2 m2 c2] rfl rfl rfl rfl (by kernel_rfl) rfl) rfl rfl rfl ?_
    rintro v82 hp5 hnew
    replace st := st.new hnew
    obtain ⟨A82, n82, c82, rfl, hl82, _, _, hr82⟩ := st.row 0 rfl
    obtain rfl : n82 = 2 := by simpa using hl82.symm
    have hok2 : ∀ b ∈ ([⟨A2, m2, c2, d⟩, ⟨A2, m2, c2, d⟩] : List BR), b.ok hp5 := fun b hb => by
     have : b = ⟨A2, m2, c2, d⟩ := by simpa using hb
     subst this
     exact ⟨hr2.ext st.low, hl2, hmc2, hcm⟩
    have hfl : (([⟨A2, m2, c2, d⟩, ⟨A2, m2, c2, d⟩] : List BR).map BR.l).flatten = d ++ d := by simp
    have hstream := streamN_ok (([⟨A2, m2, c2, d⟩, ⟨A2, m2, c2, d⟩] : List BR).map BR.l) 0 [] (by rw [hfl, List.length_append]; omega)
    rw [List.nil_append] at hstream
    have hal := streamB_len (([⟨A2, m2, c2, d⟩, ⟨A2, m2, c2, d⟩] : List BR).map BR.l)
    obtain ⟨hs1, _⟩ := stream_back (([⟨A2, m2, c2, d⟩, ⟨A2, m2, c2, d⟩] : List BR).map BR.l) (by rw [hfl, List.length_append]; omega)
    rw [hfl, List.length_append] at hs1 hal
    refine XR_wa (opl_call (stream_spec (rs := [⟨A2, m2, c2, d⟩, ⟨A2, m2, c2, d⟩]) hr82 rfl hok2 (by simp)) rfl (by kernel_rfl)) rfl rfl rfl ?_
    rintro _ hp6 ⟨w14, rfl, st2⟩
    rw [hstream] at st2 ⊢
    replace st := st.join st2
    simp only [List.cons_append, List.nil_append] at st
    clear st2 hstream hok2
    obtain ⟨SB, hSB⟩ : ∃ SB, streamB (([⟨A2, m2, c2, d⟩, ⟨A2, m2, c2, d⟩] : List BR).map BR.l) = SB := ⟨_, rfl⟩
    rw [hSB] at st hs1 hal
    obtain ⟨A14, n14, c14, rfl, hl14, hn14, _, hr14⟩ := st.row 0 rfl
    rw [List.length_map, Nat.mul_one] at hl14
    refine XV rfl rfl rfl (XR_a (op_extract rfl rfl) rfl rfl (XR_a (op_extract rfl rfl) rfl rfl (XA rfl rfl rfl (XA rfl rfl rfl (XR_nil (X_seq (X_seq (X_reg (XV rfl rfl rfl ?_)))))))))
    refine XR_a (op_neq rfl rfl) rfl rfl ?_
    refine XR_as (.bool false) (congrArg Value.bool (decide_eq_false (fun hh => hh rfl))) ?_
    refine XV rfl rfl rfl (XV rfl rfl rfl ?_)
    refine XR_a (op_neq rfl rfl) rfl rfl ?_
    refine XR_as (.bool false) (congrArg Value.bool (decide_eq_false (fun hh => hh rfl))) ?_
    obtain ⟨gB1, gE1, hg1⟩ := giv_some (K.1 : Int) (m2 : Int) K.2
    obtain ⟨ha1, ha2⟩ := whole_giv hx01 hg1
    obtain ⟨hu1, hu2⟩ := unpack_giv hg1
    rw [hb1] at ha1 ha2 hu1 hu2
    have hN1 := hu1.2 rfl
    have hB1 := hu2 rfl
    have hr12' := (st.rdS 2 rfl).2
    refine XR_a (op_pick_f rfl rfl) rfl rfl (XR_nil (X_else rfl (X_skip (X_seq (X_reg (XV rfl rfl rfl (XV rfl rfl rfl (XV rfl rfl rfl ?_))))))))
    refine XR_a (op_len rfl rfl rfl) rfl rfl ?_
    refine XR_a (op_indexA1 (i := 0) rfl rfl rfl (by omega)) rfl rfl ?_
    refine XR_a (op_ld (cellH_ext st.low c50) rfl rfl rfl) rfl rfl ?_
    refine XR_wa (opl_call (rwhole_spec (size := (m2 : Int)) (St.start _) (fun h' hh => ((st.rdS 2 rfl).2).ext hh) hl12 (by omega) hn12 i0 hg1) rfl (by kernel_rfl)) rfl rfl rfl ?_
    rintro _ hp7 ⟨w16, rfl, st2⟩
    rw [ha2] at st2
    rw [ha1.2 rfl]
    replace st := st.join st2
    simp only [List.cons_append, List.nil_append] at st
    clear st2
    obtain ⟨gB2, gE2, hg2⟩ := giv_some 2 (2 * (m2 : Int)) SB
    obtain ⟨ha3, ha4⟩ := whole_giv hx01 hg2
    rw [show (2 * (m2 : Int)) = ((d.length + d.length : Nat) : Int) by omega] at hg2 ha3 ha4
    rw [hs1] at ha3 ha4
    refine XV rfl rfl rfl (XR_a (op_extract rfl rfl) rfl rfl (XR_a (op_extract rfl rfl) rfl rfl (XA rfl rfl rfl (XA rfl rfl rfl (XR_nil (X_seq (X_reg (XV rfl rfl rfl (XV rfl rfl rfl ?_)))))))))
    refine XR_a (op_len rfl rfl rfl) rfl rfl ?_
    refine XR_a (op_mulI rfl rfl (by simp only [inK]; omega)) rfl rfl ?_
    refine XR_as (.int .i64 ((d.length + d.length : Nat) : Int)) (congrArg (Value.int .i64) (by omega)) ?_
    refine XR_a (op_indexA1 (i := 0) rfl rfl rfl (by omega)) rfl rfl ?_
    refine XR_a (op_ld (cellH_ext st.low c50) rfl rfl rfl) rfl rfl ?_
    refine XR_wa (opl_call (rwhole_spec (mt := 2) (size := ((d.length + d.length : Nat) : Int)) (St.start _) (fun h' hh => ((st.rdS 1 rfl).2).ext hh) hl14 (by omega) hn14 i0 hg2) rfl (by kernel_rfl)) rfl rfl rfl ?_
    rintro _ hp8 ⟨w18, rfl, st2⟩
    rw [ha4] at st2
    rw [ha3.2 rfl]
    replace st := st.join st2
    simp only [List.cons_append, List.nil_append] at st
    clear st2
    obtain ⟨A16, n16, c16, rfl, hl16, _, _, hr16⟩ := st.row 1 rfl
    obtain ⟨A18, n18, c18, rfl, hl18, _, _, hr18⟩ := st.row 0 rfl
    rw [List.length_map, Nat.mul_one] at hl16 hl18
    refine XV rfl rfl rfl (XR_a (op_extract rfl rfl) rfl rfl (XR_a (op_extract rfl rfl) rfl rfl (XA rfl rfl rfl (XA rfl rfl rfl (XR_nil (X_seq (X_seq (X_reg (XV rfl rfl rfl ?_)))))))))
    refine XR_a (op_neq rfl rfl) rfl rfl ?_
    refine XR_as (.bool false) (congrArg Value.bool (decide_eq_false (fun hh => hh rfl))) ?_
    refine XV rfl rfl rfl (XV rfl rfl rfl ?_)
    refine XR_a (op_neq rfl rfl) rfl rfl ?_
    refine XR_as (.bool false) (congrArg Value.bool (decide_eq_false (fun hh => hh rfl))) ?_
    refine XR_a (op_pick_f rfl rfl) rfl rfl (XV rfl rfl rfl (XV rfl rfl rfl ?_))
    refine XR_a (op_str hr16 rfl hl16 rfl rfl rfl) rfl rfl ?_
    refine XV rfl rfl rfl ?_
    refine XR_a (op_str (hr2.ext st.low) rfl hl2 rfl rfl rfl) rfl rfl ?_
    refine XR_a (op_neqS rfl rfl) rfl rfl ?_
    refine XR_as (.bool false) (congrArg Value.bool (decide_eq_false (fun hh => hh rfl))) ?_
    refine XR_a (op_pick_f rfl rfl) rfl rfl (XV rfl rfl rfl (XV rfl rfl rfl ?_))
    refine XR_a (op_str hr18 rfl hl18 rfl rfl rfl) rfl rfl ?_
    refine XV rfl rfl rfl ?_
    refine XR_a (op_str (hr2.ext st.low) rfl hl2 rfl rfl rfl) rfl rfl ?_
    refine XV rfl rfl rfl ?_
    refine XR_a (op_str (hr2.ext st.low) rfl hl2 rfl rfl rfl) rfl rfl ?_
    refine XR_a (op_addS rfl rfl (by omega)) rfl rfl ?_
    refine XR_a (op_neqS rfl rfl) rfl rfl ?_
    refine XR_as (.bool false) (congrArg Value.bool (decide_eq_false (fun hh => hh rfl))) ?_
    refine XR_a (op_pick_f rfl rfl) rfl rfl (XR_nil (X_else rfl (X_skip (X_seq (X_reg ?_)))))
    refine XR_a (op_indexA1 (i := 2) rfl rfl rfl (by omega)) rfl rfl ?_
    refine XR_a (op_ld (cellH_ext st.low c52) rfl rfl rfl) rfl rfl ?_
    refine XA rfl rfl rfl (XR_nil (X_seq (X_seq (X_reg (XV rfl rfl rfl ?_)))))
    refine XR_a (op_lss rfl rfl) rfl rfl ?_
    refine XV rfl rfl rfl ?_
    refine XR_if 139 rfl (fun h => ?_) (fun h => ?_)
    ·refine XR_no rfl rfl (XR_no rfl rfl (XR_no rfl rfl (XR_no rfl rfl (XR_a (op_pick_t rfl rfl) rfl rfl (XR_nil (X_then rfl (X_seq (X_reg ?_))))))))
     refine XR_wa (opl_call (lives36 _) rfl (by kernel_rfl)) rfl rfl rfl ?_
     rintro _ hp9 ⟨rfl, hx9⟩
     refine XA rfl rfl rfl (XR_nil ?_)
     refine X_ret (.cons (.tmp rfl) .nil) ?_
     exact ⟨rfl, Ext.trans hx0 (Ext.trans st.low hx9)⟩
    ·refine XV rfl rfl rfl (XV rfl rfl rfl ?_)
     refine XR_a (op_len rfl rfl rfl) rfl rfl ?_
     refine XR_a (op_gtr rfl rfl) rfl rfl ?_
     refine XR_a (op_pick_f rfl rfl) rfl rfl (XR_nil ?_)
     refine X_if rfl (fun h => ?_) (fun h => ?_)
     ·refine X_seq (X_reg ?_)
      refine XR_wa (opl_call (lives36 _) rfl (by kernel_rfl)) rfl rfl rfl ?_
      rintro _ hp9 ⟨rfl, hx9⟩
      refine XA rfl rfl rfl (XR_nil ?_)
      refine X_ret (.cons (.tmp rfl) .nil) ?_
      exact ⟨rfl, Ext.trans hx0 (Ext.trans st.low hx9)⟩
     ·obtain ⟨f, rfl⟩ : ∃ f : Nat, x2 = (f : Int) := ⟨x2.toNat, by omega⟩
      have hfm : f ≤ d.length := by omega
      have hps := part_same (d := d) (f := f) (n := x0) hfm hx01
      have hcut := (hr2.cut f 1 c2 (m2 - f) (by intro hh; rw [List.length_map]; omega))
      rw [Nat.mul_one, ← List.map_drop, ← List.map_take, List.take_of_length_le (i := m2 - f) (by rw [List.length_drop]; omega)] at hcut
      refine X_skip (X_seq (X_reg (XV rfl rfl rfl (XV rfl rfl rfl (XV rfl rfl rfl ?_)))))
      refine XR_a (op_len rfl rfl rfl) rfl rfl ?_
      refine XV rfl rfl rfl ?_
      refine XR_a (op_indexA1 (i := 0) rfl rfl rfl (by omega)) rfl rfl ?_
      refine XR_a (op_ld (cellH_ext st.low c50) rfl rfl rfl) rfl rfl ?_
      refine XR_wa (opl_call (rdpart_spec (mt := (K.1 : Int)) (size := (m2 : Int)) (fr := (f : Int)) (n := x0) (st.rdS 4 rfl).2 hl12 (by omega) hn12 (by simp only [inK]; omega) i0 hg1) rfl (by kernel_rfl)) rfl rfl rfl ?_
      rintro _ hp10 ⟨A21, n21, c21, rfl, hl21, hc21, hr21, hx21⟩
      rw [hN1.1, hN1.2, hB1, hps] at hl21 hr21
      rw [hN1.1, hN1.2, hB1, hps]
      replace st := st.ext hx21
      refine XV rfl rfl rfl (XR_a (op_extract rfl rfl) rfl rfl (XR_a (op_extract rfl rfl) rfl rfl (XA rfl rfl rfl (XA rfl rfl rfl (XR_nil (X_seq (X_reg (XV rfl rfl rfl (XV rfl rfl rfl ?_)))))))))
      refine XR_a (op_slice_l (l := f) rfl rfl rfl (by omega) (by omega)) rfl rfl ?_
      refine XA rfl rfl rfl (XR_nil (X_seq (X_seq (X_reg ?_))))
      refine XR_a (op_indexA1 (i := 0) rfl rfl rfl (by omega)) rfl rfl ?_
      refine XR_a (op_ld (cellH_ext st.low c50) rfl rfl rfl) rfl rfl ?_
      refine XV rfl rfl rfl ?_
      refine XR_a (op_len rfl rfl rfl) rfl rfl ?_
      refine XR_a (op_lss rfl rfl) rfl rfl ?_
      refine XR_as (.bool (decide (x0 < ((d.length - f : Nat) : Int)))) (congrArg Value.bool (decide_eq_decide.2 ⟨fun hh => by omega, fun hh => by omega⟩)) ?_
      refine XR_nil ?_
      refine X_if rfl (fun h => ?_) (fun h => ?_)
      ·rw [if_pos h] at hl21 hr21
       obtain ⟨xn, rfl⟩ : ∃ f : Nat, x0 = (f : Int) := ⟨x0.toNat, by omega⟩
       rw [Int.toNat_natCast] at hl21 hr21
       refine X_reg (XV rfl rfl rfl ?_)
       refine XR_a (op_indexA1 (i := 0) rfl rfl rfl (by omega)) rfl rfl ?_
       refine XR_a (op_ld (cellH_ext st.low c50) rfl rfl rfl) rfl rfl ?_
       refine XR_a (op_slice_h (h := xn) rfl rfl rfl (by omega)) rfl rfl ?_
       rw [cutA_zero]
       refine XA rfl rfl rfl (XR_nil (X_seq (X_reg (XV rfl rfl rfl ?_))))
       refine XR_a (op_eql rfl rfl) rfl rfl ?_
       refine XR_as (.bool true) (congrArg Value.bool (decide_eq_true rfl)) ?_
       refine XV rfl rfl rfl (XV rfl rfl rfl ?_)
       refine XR_a (op_str hr21 rfl hl21 rfl rfl rfl) rfl rfl ?_
       refine XV rfl rfl rfl ?_
       refine XR_a (op_str (l := (d.drop f).take xn) (by rw [List.map_take]; exact (hcut.ext st.low).take xn) rfl (by rw [List.length_take, List.length_drop]; omega) rfl rfl rfl) rfl rfl ?_
       refine XR_a (op_eqlS rfl rfl) rfl rfl ?_
       refine XR_as (.bool true) (congrArg Value.bool (decide_eq_true rfl)) ?_
       refine XR_a (op_pick_t rfl rfl) rfl rfl (XV rfl rfl rfl ?_)
       refine XR_wa (opl_call (lives36 _) rfl (by kernel_rfl)) rfl rfl rfl ?_
       rintro _ hp11 ⟨rfl, hx11⟩
       refine XR_a (op_pick_t rfl rfl) rfl rfl (XA rfl rfl rfl (XR_nil ?_))
       refine X_ret (.cons (.tmp rfl) .nil) ?_
       exact ⟨rfl, Ext.trans hx0 (Ext.trans st.low hx11)⟩
      ·rw [if_neg h] at hl21 hr21
       refine X_skip (X_seq (X_reg (XV rfl rfl rfl ?_)))
       refine XR_a (op_eql rfl rfl) rfl rfl ?_
       refine XR_as (.bool true) (congrArg Value.bool (decide_eq_true rfl)) ?_
       refine XV rfl rfl rfl (XV rfl rfl rfl ?_)
       refine XR_a (op_str hr21 rfl hl21 rfl rfl rfl) rfl rfl ?_
       refine XV rfl rfl rfl ?_
       refine XR_a (op_str (l := d.drop f) (hcut.ext st.low) rfl (by rw [List.length_drop]; omega) rfl rfl rfl) rfl rfl ?_
       refine XR_a (op_eqlS rfl rfl) rfl rfl ?_
       refine XR_as (.bool true) (congrArg Value.bool (decide_eq_true rfl)) ?_
       refine XR_a (op_pick_t rfl rfl) rfl rfl (XV rfl rfl rfl ?_)
       refine XR_wa (opl_call (lives36 _) rfl (by kernel_rfl)) rfl rfl rfl ?_
       rintro _ hp11 ⟨rfl, hx11⟩
       refine XR_a (op_pick_t rfl rfl) rfl rfl (XA rfl rfl rfl (XR_nil ?_))
       refine X_ret (.cons (.tmp rfl) .nil) ?_
       exact ⟨rfl, Ext.trans hx0 (Ext.trans st.low hx11)⟩
end Go.Bn
end

section
set_option linter.unusedVariables false
namespace Go.Bn
open Go
section
variable {H : Type} {enc : TypeId × Value → H} {P : Program} {W : World} {base : Nat} {spare : Nat → Bool} {held : Bool}
theorem okL_cells {k : IntKind} : ∀ (n : Nat) (l : List Value), l.length = n → (∀ i, i < n → ∃ m : Int, (l.drop i).take 1 = [.int k m] ∧ inK k m) → okL (List.replicate n (.i k)) l
 | 0, l, hl, _ => by
  obtain rfl := List.length_eq_zero_iff.1 hl
  exact trivial
 | n + 1, l, hl, h => by
  cases l with
  | nil => simp at hl
  | cons v r =>
   obtain ⟨m, hm, hk⟩ := h 0 (by omega)
   have hm : v = .int k m := by simpa using hm
   refine ⟨⟨m, hm, hk⟩, okL_cells n r (by simpa using hl) fun i hi => ?_⟩
   have := h (i + 1) (by omega)
   rwa [List.drop_succ_cons] at this
theorem arg_arr {base' n : Nat} {t e : TypeId} {k : IntKind} {v : Value} {d : DataW H} {ps : List MemPlace} (hu : P.underlying t = some (.array n e)) (he : P.underlying e = some (.int k)) (hce : P.cellsOf e = 1) (hc : P.cellsOf t = n)
  (hv : Value.okWide P W .any base' t v) (h : DataW.Trod enc P W base spare held t v d ps) : ∃ cs, v = .agg cs ∧ okL (List.replicate n (.i k)) cs.toList := by
 simp only [Value.okWide, hu] at hv
 obtain ⟨cs, rfl, hs, _⟩ := hv
 obtain ⟨f, hn⟩ := h
 simp only [Value.cells] at hn
 obtain ⟨xs, m, _, _, hlen, hxl, hf⟩ := DataW.trod_array hu hn
 refine ⟨cs, rfl, okL_cells n _ (by rw [Array.length_toList, hs, hc]) fun i hi => ?_⟩
 have h1 := hf i hi
 rw [hce, Nat.mul_one, List.getElem?_eq_getElem (by omega)] at h1
 obtain ⟨a, hx, _, hw⟩ := DataW.trod_int he h1
 exact ⟨a, hx, wf_in hw⟩
end
end Go.Bn
end
