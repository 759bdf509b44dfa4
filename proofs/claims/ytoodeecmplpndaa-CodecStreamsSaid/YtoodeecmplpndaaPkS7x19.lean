/- Packed texts of a claim: what its theorem uses, joined. -/
import Derived.Test.YtoodeecmplpndaaPkS7x18
section
set_option linter.unusedVariables false
set_option linter.unusedSimpArgs false
set_option maxHeartbeats 4000000
set_option maxRecDepth 20000
namespace Go.Bn
open Go Proofs
theorem pack14_ref {n c : Nat} {lv : Int} {A : Option Addr} {b : List UInt8} {h0 : Heap} (hr : Rd h0 A (b.map byteV)) (hl : b.length = n) (hn : n ≤ 65536) (hnc : n ≤ c) :
  Ret Try.prog 8 [.slice A n c, .int .i64 lv] h0 fun v h' => ∃ A' g' c', v = retVal [nV (packP b lv).1, .slice A' g' c'] ∧ (packP b lv).2.length = g' ∧ Rd h' A' ((packP b lv).2.map byteV) ∧ Ext h0 h' := by
 obtain ⟨K, hK⟩ : ∃ K, packP b lv = K := ⟨_, rfl⟩
 rw [hK]
 unfold packP at hK
 refine ret_of_X Try.func8 rfl rfl fun w0 hw0 => ?_
 simp only [argE, Nat.zero_add, Nat.reduceAdd]
 have st := St.start h0
 refine X_seq (X_reg (XA rfl rfl rfl (XA rfl rfl rfl (XR_nil (X_seq (X_seq (X_reg (XV rfl rfl rfl ?_))))))))
 refine XR_a (op_lss rfl rfl) rfl rfl ?_
 refine XR_nil ?_
 refine X_if rfl (fun h => ?_) (fun h => ?_)
 ·rw [if_neg (by omega)] at hK
  subst hK
  refine X_seq (X_reg (XV rfl rfl rfl (XA rfl rfl rfl (XA rfl rfl rfl (XR_nil ?_)))))
  refine X_ret (.cons (.tmp rfl) (.cons (.tmp rfl) .nil)) ?_
  exact ⟨_, _, _, rfl, hl, hr, st.low⟩
 ·refine X_skip (X_seq (X_reg (XV rfl rfl rfl (XV rfl rfl rfl ?_))))
  refine XR_wa (opl_call (split11_ref hr hl (by omega)) rfl (by kernel_rfl)) rfl rfl rfl ?_
  rintro v12 hp2 st2
  obtain ⟨hR, hby, hdO, hsz, hle, _⟩ := splitL_ok (b := b) lv (by omega)
  have hbl := splitL_blen (b := b) lv (by omega)
  replace st := st.join st2
  simp only [List.cons_append, List.nil_append] at st
  clear st2
  obtain ⟨A12, n12, c12, rfl, hl12, _, _, hr12⟩ := st.row 0 rfl
  rw [flat_length _ 3 (fun _ => rfl)] at hl12
  refine XR_wa (opl_call (put13_ref hr12 (show (splitL b lv).length = n12 by omega) hR hby) rfl (by kernel_rfl)) rfl rfl rfl ?_
  rintro v13 hp3 st3
  replace st := st.join st3
  simp only [List.cons_append, List.nil_append] at st
  clear st3
  obtain ⟨A13, n13, c13, rfl, hl13, _, _, hr13⟩ := st.row 0 rfl
  rw [List.length_map, b01_length, Nat.mul_one] at hl13
  refine XR_wa (opl_call (pack_ref hr13 hl13 (by omega)) rfl (by kernel_rfl)) rfl rfl rfl ?_
  rintro v14 hp4 st4
  replace st := st.join st4
  simp only [List.cons_append, List.nil_append] at st
  clear st4
  obtain ⟨A14, n14, c14, rfl, hl14, _, _, hr14⟩ := st.row 0 rfl
  rw [List.length_map, Nat.mul_one] at hl14
  refine XA rfl rfl rfl (XR_nil (X_seq (X_seq (X_reg (XV rfl rfl rfl ?_)))))
  refine XR_a (op_len rfl rfl rfl) rfl rfl ?_
  refine XV rfl rfl rfl ?_
  refine XR_a (op_len rfl rfl rfl) rfl rfl ?_
  refine XR_a (op_lss rfl rfl) rfl rfl ?_
  refine XR_nil ?_
  refine X_if rfl (fun h => ?_) (fun h => ?_)
  ·rw [if_pos ⟨by omega, by omega⟩] at hK
   subst hK
   refine X_seq (X_reg (XV rfl rfl rfl (XA rfl rfl rfl (XA rfl rfl rfl (XR_nil ?_)))))
   refine X_ret (.cons (.tmp rfl) (.cons (.tmp rfl) .nil)) ?_
   exact ⟨_, _, _, rfl, hl14, hr14, st.low⟩
  ·rw [if_neg (by omega)] at hK
   subst hK
   refine X_skip (X_seq (X_reg (XV rfl rfl rfl (XA rfl rfl rfl (XA rfl rfl rfl (XR_nil ?_))))))
   refine X_ret (.cons (.tmp rfl) (.cons (.tmp rfl) .nil)) ?_
   exact ⟨_, _, _, rfl, hl, hr.ext st.low, st.low⟩
theorem leB_two (n : Nat) (h : n < 65536) : leB 2 n = [UInt8.ofNat (n % 256), UInt8.ofNat (n / 256)] := by
 simp only [leB]
 refine congr (congrArg List.cons ?_) (congrArg (fun x => [x]) ?_) <;> (apply UInt8.toNat_inj.1; simp only [UInt8.toNat_ofNat'] <;> omega)
theorem piece14_ref {n c : Nat} {A : Option Addr} {b : List UInt8} {h0 : Heap} (hr : Rd h0 A (b.map byteV)) (hl : b.length = n) (hnc : n ≤ c) (hn : n ≤ 1073741824) :
  Ret Try.prog 9 [.slice A n c] h0 fun v h' => St h0.size h0 h' [row 5 1 v ((pieceB b).map byteV)] := by
 refine ret_of_X Try.func9 rfl rfl fun w0 hw0 => ?_
 simp only [argE, Nat.zero_add, Nat.reduceAdd]
 refine X_seq (X_reg (XA rfl rfl rfl (XR_nil (X_seq (X_reg (XA rfl rfl rfl (XR_nil (X_seq (X_seq ?_)))))))))
 refine X_reg (XA rfl rfl rfl (XR_nil (X_block ?_)))
 have st := (St.start h0).nilrow 5 1
 refine X_loop (fun s => n + 65535 - s.1) (fun s => [(0, .slice A n c), (3, s.2.2), (4, nV s.1)])
  (fun (s : Nat × List (List UInt8) × Value) hp => s.1 ≤ n + 65535 ∧ s.2.1 ++ chunks (b.drop s.1) = chunks b ∧ (pieceS s.2.1).length ≤ 3 * n ∧ (s.1 ≤ n → (pieceS s.2.1).length ≤ 3 * s.1) ∧ St h0.size h0 hp [row 5 1 s.2.2 ((pieceS s.2.1).map byteV)])
  (0, [], _) (.cons rfl (.cons rfl (.cons rfl (.nil _)))) ⟨by simp only; omega, rfl, by simp [pieceS], by simp [pieceS], st⟩ ?_
 clear st
 rintro ⟨i, s, v⟩ hp ⟨hi, hs, hps, hpi, st⟩
 simp only at hi hs hps hpi st ⊢
 obtain ⟨A9, n9, c9, rfl, hl9, _⟩ := st.row 0 rfl
 refine X_seq (X_seq (X_reg (XV rfl rfl rfl (XV rfl rfl rfl ?_))))
 refine XR_a (op_len rfl rfl rfl) rfl rfl ?_
 refine XR_a (op_lss rfl rfl) rfl rfl ?_
 refine XR_nil ?_
 refine X_if rfl (fun h => ?_) (fun h => ?_)
 ·have hin : i < n := by omega
  have hch := chunks_cons (l := b.drop i) (by rw [List.length_drop]; omega)
  rw [hch, List.drop_drop] at hs
  refine X_skip (X_seq (X_block (X_seq (X_reg (XV rfl rfl rfl ?_)))))
  refine XR_a (op_len rfl rfl rfl) rfl rfl ?_
  refine XV rfl rfl rfl ?_
  refine XR_a (op_subN (m := n) (n := i) rfl rfl (by omega) (by simp only [inK]; omega)) rfl rfl ?_
  refine XA rfl rfl rfl (XR_nil (X_seq (X_seq (X_reg (XV rfl rfl rfl ?_)))))
  refine XR_a (op_gtr rfl rfl) rfl rfl ?_
  refine XR_nil ?_
  refine X_if rfl (fun h => ?_) (fun h => ?_)
  ·obtain ⟨k, hk⟩ : ∃ k, k = min (n - i) 65535 := ⟨_, rfl⟩
   have hk2 : k = 65535 := by omega
   refine X_reg (XA rfl rfl rfl ?_)
   refine XR_as (nV k) (congrArg (Value.int .i64) (by omega)) ?_
   refine XR_nil (X_seq (X_reg (XV rfl rfl rfl (XV rfl rfl rfl ?_))))
   first | refine XR_a (op_remN (n := 256) rfl rfl (by omega)) rfl rfl ?_ | refine XR_a (op_remI rfl rfl (by omega) (by omega)) rfl rfl ?_ | refine XR_a (op_rem rfl rfl (by omega)) rfl rfl ?_
   refine XR_a (op_convU rfl rfl rfl) rfl rfl ?_
   refine XR_as (byteV (UInt8.ofNat (k % 256))) (congrArg (Value.int .u8) (by rw [UInt8.toNat_ofNat']; simp only [IntKind.bits] <;> omega)) ?_
   refine XV rfl rfl rfl ?_
   first | refine XR_a (op_quoN (n := 256) rfl rfl (by omega) (by simp only [inK]; omega)) rfl rfl ?_ | refine XR_a (op_quoI rfl rfl (by omega) (by omega) (by simp only [inK]; omega)) rfl rfl ?_ | refine XR_a (op_quo rfl rfl (by omega)) rfl rfl ?_
   refine XR_a (op_convU rfl rfl rfl) rfl rfl ?_
   refine XR_as (byteV (UInt8.ofNat (k / 256))) (congrArg (Value.int .u8) (by rw [UInt8.toNat_ofNat']; simp only [IntKind.bits] <;> omega)) ?_
   refine XR_wa (opl_lits [byteV (UInt8.ofNat (k % 256)), byteV (UInt8.ofNat (k / 256))] rfl rfl rfl rfl (by kernel_rfl) rfl) rfl rfl rfl ?_
   rintro v25 hp2 hnew
   replace st := st.new hnew
   obtain ⟨A25, n25, c25, rfl, hl25, _, _, hr25⟩ := st.row 0 rfl
   obtain rfl : n25 = 2 := by simpa using hl25.symm
   have e2 : [byteV (UInt8.ofNat (k % 256)), byteV (UInt8.ofNat (k / 256))] = (leB 2 k).map byteV := by rw [leB_two k (by omega)]; rfl
   rw [e2] at hr25
   refine XR_wa (opl_append st 1 rfl (hr25) (by rw [List.length_map, leB_length]) (one_bytes _) (by simp only [List.length_map, leB_length]; omega) rfl rfl rfl rfl rfl rfl rfl) rfl rfl rfl fun v hp st => ?_
   simp only [List.set_cons_zero, List.set_cons_succ] at st
   rw [← List.map_append] at st
   replace st := st.tail
   have htl : ((b.drop i).take 65535).length = k := by rw [List.length_take, List.length_drop]; omega
   have hcut := (hr.ext st.low).cut i 1 c k (by intro hh; rw [List.length_map]; omega)
   rw [Nat.mul_one, ← List.map_drop, ← List.map_take] at hcut
   have htk : (b.drop i).take k = (b.drop i).take 65535 := by
    rcases Nat.le_total (n - i) 65535 with h9 | h9
    ·rw [List.take_of_length_le (by rw [List.length_drop]; omega), List.take_of_length_le (by rw [List.length_drop]; omega)]
    ·rw [show k = 65535 by omega]
   rw [htk] at hcut
   refine XA rfl rfl rfl (XR_nil (X_reg (XV rfl rfl rfl (XV rfl rfl rfl (XV rfl rfl rfl (XV rfl rfl rfl (XV rfl rfl rfl ?_)))))))
   refine XR_a (op_addN (m := i) (n := k) rfl rfl (by simp only [inK]; omega)) rfl rfl ?_
   refine XR_a (op_slice (l := i) (h := i + k) rfl rfl rfl rfl (by omega) (by omega)) rfl rfl ?_
   rw [show i + k - i = k by omega]
   refine XR_wa (opl_append st 0 rfl (hcut) (by rw [List.length_map]; omega) (one_bytes _) (by simp only [List.length_map, List.length_append, leB_length]; omega) rfl rfl rfl rfl rfl rfl rfl) rfl rfl rfl fun v hp st => ?_
   simp only [List.set_cons_zero, List.set_cons_succ] at st
   have e3 : pieceS s ++ leB 2 k ++ (b.drop i).take 65535 = pieceS (s ++ [(b.drop i).take 65535]) := by rw [pieceS_snoc, htl]
   rw [← List.map_append, e3] at st
   have hpl : (pieceS (s ++ [(b.drop i).take 65535])).length = (pieceS s).length + 2 + k := by rw [pieceS_snoc, List.length_append, List.length_append, leB_length, htl]
   refine XA rfl rfl rfl (XR_nil (X_blk (X_reg (XV rfl rfl rfl ?_))))
   refine XR_a (op_addN (n := 65535) rfl rfl (by simp only [inK]; omega)) rfl rfl ?_
   refine XA rfl rfl rfl (XR_nil ?_)
   have hpi := hpi (by omega)
   exact X_again (i + 65535, s ++ [(b.drop i).take 65535], _) (.cons rfl (.cons rfl (.cons rfl (.nil _)))) ⟨by simp only; omega, by simp only; rw [List.append_assoc]; exact hs, by simp only; omega, fun hh => by simp only at hh ⊢; omega, st⟩ (by simp only; omega)
  ·obtain ⟨k, hk⟩ : ∃ k, k = min (n - i) 65535 := ⟨_, rfl⟩
   have hk2 : k = n - i := by omega
   refine X_skip (X_seq (X_reg (XV rfl rfl rfl (XV rfl rfl rfl ?_))))
   rw [show n - i = k by omega]
   refine XR_a (op_remN (n := 256) rfl rfl (by omega)) rfl rfl ?_
   refine XR_a (op_convU rfl rfl rfl) rfl rfl ?_
   refine XR_as (byteV (UInt8.ofNat (k % 256))) (congrArg (Value.int .u8) (by rw [UInt8.toNat_ofNat']; simp only [IntKind.bits] <;> omega)) ?_
   refine XV rfl rfl rfl ?_
   first | refine XR_a (op_quoN (n := 256) rfl rfl (by omega) (by simp only [inK]; omega)) rfl rfl ?_ | refine XR_a (op_quoI rfl rfl (by omega) (by omega) (by simp only [inK]; omega)) rfl rfl ?_ | refine XR_a (op_quo rfl rfl (by omega)) rfl rfl ?_
   refine XR_a (op_convU rfl rfl rfl) rfl rfl ?_
   refine XR_as (byteV (UInt8.ofNat (k / 256))) (congrArg (Value.int .u8) (by rw [UInt8.toNat_ofNat']; simp only [IntKind.bits] <;> omega)) ?_
   refine XR_wa (opl_lits [byteV (UInt8.ofNat (k % 256)), byteV (UInt8.ofNat (k / 256))] rfl rfl rfl rfl (by kernel_rfl) rfl) rfl rfl rfl ?_
   rintro v25 hp2 hnew
   replace st := st.new hnew
   obtain ⟨A25, n25, c25, rfl, hl25, _, _, hr25⟩ := st.row 0 rfl
   obtain rfl : n25 = 2 := by simpa using hl25.symm
   have e2 : [byteV (UInt8.ofNat (k % 256)), byteV (UInt8.ofNat (k / 256))] = (leB 2 k).map byteV := by rw [leB_two k (by omega)]; rfl
   rw [e2] at hr25
   refine XR_wa (opl_append st 1 rfl (hr25) (by rw [List.length_map, leB_length]) (one_bytes _) (by simp only [List.length_map, leB_length]; omega) rfl rfl rfl rfl rfl rfl rfl) rfl rfl rfl fun v hp st => ?_
   simp only [List.set_cons_zero, List.set_cons_succ] at st
   rw [← List.map_append] at st
   replace st := st.tail
   have htl : ((b.drop i).take 65535).length = k := by rw [List.length_take, List.length_drop]; omega
   have hcut := (hr.ext st.low).cut i 1 c k (by intro hh; rw [List.length_map]; omega)
   rw [Nat.mul_one, ← List.map_drop, ← List.map_take] at hcut
   have htk : (b.drop i).take k = (b.drop i).take 65535 := by
    rcases Nat.le_total (n - i) 65535 with h9 | h9
    ·rw [List.take_of_length_le (by rw [List.length_drop]; omega), List.take_of_length_le (by rw [List.length_drop]; omega)]
    ·rw [show k = 65535 by omega]
   rw [htk] at hcut
   refine XA rfl rfl rfl (XR_nil (X_reg (XV rfl rfl rfl (XV rfl rfl rfl (XV rfl rfl rfl (XV rfl rfl rfl (XV rfl rfl rfl ?_)))))))
   refine XR_a (op_addN (m := i) (n := k) rfl rfl (by simp only [inK]; omega)) rfl rfl ?_
   refine XR_a (op_slice (l := i) (h := i + k) rfl rfl rfl rfl (by omega) (by omega)) rfl rfl ?_
   rw [show i + k - i = k by omega]
   refine XR_wa (opl_append st 0 rfl (hcut) (by rw [List.length_map]; omega) (one_bytes _) (by simp only [List.length_map, List.length_append, leB_length]; omega) rfl rfl rfl rfl rfl rfl rfl) rfl rfl rfl fun v hp st => ?_
   simp only [List.set_cons_zero, List.set_cons_succ] at st
   have e3 : pieceS s ++ leB 2 k ++ (b.drop i).take 65535 = pieceS (s ++ [(b.drop i).take 65535]) := by rw [pieceS_snoc, htl]
   rw [← List.map_append, e3] at st
   have hpl : (pieceS (s ++ [(b.drop i).take 65535])).length = (pieceS s).length + 2 + k := by rw [pieceS_snoc, List.length_append, List.length_append, leB_length, htl]
   refine XA rfl rfl rfl (XR_nil (X_blk (X_reg (XV rfl rfl rfl ?_))))
   refine XR_a (op_addN (n := 65535) rfl rfl (by simp only [inK]; omega)) rfl rfl ?_
   refine XA rfl rfl rfl (XR_nil ?_)
   have hpi := hpi (by omega)
   exact X_again (i + 65535, s ++ [(b.drop i).take 65535], _) (.cons rfl (.cons rfl (.cons rfl (.nil _)))) ⟨by simp only; omega, by simp only; rw [List.append_assoc]; exact hs, by simp only; omega, fun hh => by simp only at hh ⊢; omega, st⟩ (by simp only; omega)
 ·refine X_exit rfl (X_seq (X_reg (XV rfl rfl rfl (XA rfl rfl rfl (XR_nil ?_)))))
  refine X_ret (.cons (.tmp rfl) .nil) ?_
  rw [List.drop_of_length_le (by omega), chunks_nil, List.append_nil] at hs
  unfold pieceB
  rw [← hs]
  exact st
end Go.Bn
end

section
namespace Go.Bn
open Go
def schB3 (cs : CF) (ops : Array Oper) (pre : List Nat) (x1 : Nat) (r1 : List Nat) (x2 y1 : Nat) (s1 : List Nat) (y2 : Nat) (s2 : List Nat) : Bool :=
  Region.noSelect ops && befOk (Region.before ops) ops && Nat.beq (pre.length + (r1.length + 1)) ops.size && Nat.beq r1.length (s1.length + 1) && Nat.beq s1.length s2.length &&
  schK cs ops (Region.before ops) (fun listed => Region.ready .any ops listed == [x1, x2] && sch cs ops (Region.before ops) r1 (listed.setIfInBounds x1 true) &&
    (Region.ready .any ops (listed.setIfInBounds x2 true) == [y1, y2] && sch cs ops (Region.before ops) s1 ((listed.setIfInBounds x2 true).setIfInBounds y1 true) && sch cs ops (Region.before ops) s2 ((listed.setIfInBounds x2 true).setIfInBounds y2 true)))
    pre (Array.replicate ops.size false)
theorem wp_region_three {r : Option Nat} {P : Program} {id : Nat} {ops : Array Oper} {Q S : Exit → Act → World → Prop} (hS : ∀ e a w, S e a w → Q e a w) (hIn : ∀ e a d v w, S e (Act.put a d v) w → S e a w) {a : Act} {w : World} (cs : CF) (pre : List Nat) (x1 : Nat) (r1 : List Nat) (x2 y1 : Nat) (s1 : List Nat) (y2 : Nat) (s2 : List Nat)
  (hD : r = none ∨ noDefer ops = true) (hm : P.follows .mixedOrders = true) (hB : schB3 cs ops pre x1 r1 x2 y1 s1 y2 s2 = true)
  (h : rgl cs P S ops (fun a w => rgl cs P S ops (Q .normal) (x1 :: r1) a w ∧ rgl cs P S ops (fun a w => rgl cs P S ops (Q .normal) (y1 :: s1) a w ∧ rgl cs P S ops (Q .normal) (y2 :: s2) a w) [x2] a w) pre a { w with drawn := w.drawn + 1 }) : (Code.region id ops true).wpIn (wdF r) 0 P Q a w := by
 simp only [schB3, Bool.and_eq_true] at hB
 obtain ⟨⟨⟨⟨⟨hs, hb⟩, hl⟩, hl2⟩, hl3⟩, hsch⟩ := hB
 refine wpIn_region_any hm (anyC.wpAny (cs := cs) hS hD _ _ _ _ ?_)
 have key := rgl_anyK (N := Q .normal) (m := r1.length + 1) hIn hs hb ?_ pre (Array.replicate ops.size false) a { w with drawn := w.drawn + 1 } (fun j oj _ hl' => absurd hl' (by
  rw [getD_replicate_false]; exact Bool.false_ne_true)) hsch h
 ·rw [Nat.eq_of_beq_eq_true hl] at key
  exact key
 ·intro listed a w hc hf hN
  simp only [Bool.and_eq_true] at hf
  obtain ⟨⟨hr, hs1⟩, ⟨hr2, hs2⟩, hs3⟩ := hf
  have hr : Region.ready .any ops listed = [x1, x2] := by simpa using hr
  have hr2 : Region.ready .any ops (listed.setIfInBounds x2 true) = [y1, y2] := by simpa using hr2
  refine ⟨fun h => (by rw [hr] at h; cases h), fun i hi => ?_⟩
  rw [hr] at hi
  rcases List.mem_cons.1 hi with rfl | hi'
  ·exact stepI.mono (fun a' w' h' => rgl_any hIn hs hb r1 _ _ _ (hc.set (by rw [hr]; simp)) hs1 h') hN.1
  ·obtain rfl : i = x2 := by simpa using hi'
   have hc2 := hc.set (i := i) (by rw [hr]; simp)
   refine stepI.mono (fun a' w' h' => ?_) hN.2
   have h' : rgl cs P S ops (Q .normal) (y1 :: s1) a' w' ∧ rgl cs P S ops (Q .normal) (y2 :: s2) a' w' := h'
   rw [Nat.eq_of_beq_eq_true hl2]
   refine ⟨fun h => (by rw [hr2] at h; cases h), fun j hj => ?_⟩
   rw [hr2] at hj
   rcases List.mem_cons.1 hj with rfl | hj'
   ·exact stepI.mono (fun a'' w'' h'' => rgl_any hIn hs hb s1 _ _ _ (hc2.set (by rw [hr2]; simp)) hs2 h'') h'.1
   ·obtain rfl : j = y2 := by simpa using hj'
    have := stepI.mono (fun a'' w'' h'' => rgl_any hIn hs hb s2 _ _ _ (hc2.set (by rw [hr2]; simp)) hs3 h'') h'.2
    rw [← Nat.eq_of_beq_eq_true hl3] at this
    exact this
variable {c : Cx} {k : List SItem} {E : Env} {hp : Heap}
def J2 (c : Cx) (cs : CF) (ops : Array Oper) (l2 l3 : List (Nat × Oper)) (J : Act → World → Prop) (k : List SItem) (a : Act) (w : World) : Prop := rgp cs c.P (PQ c k) ops J l2 a w ∧ rgp cs c.P (PQ c k) ops J l3 a w
def J3 (c : Cx) (cs : CF) (ops : Array Oper) (l1 lx l2 l3 : List (Nat × Oper)) (k : List SItem) (a : Act) (w : World) : Prop := rgp cs c.P (PQ c k) ops (SQ c k .normal) l1 a w ∧ rgp cs c.P (PQ c k) ops (J2 c cs ops l2 l3 (SQ c k .normal) k) lx a w
attribute [local semireducible] X XR in
theorem X_draw_three {id : Nat} {l : List Oper} (cs : CF) (pre : List Nat) (x1 : Nat) (r1 : List Nat) (x2 y1 : Nat) (s1 : List Nat) (y2 : Nat) (s2 : List Nat) {lp l1 lx l2 l3 : List (Nat × Oper)} (hm : c.P.follows .mixedOrders = true)
  (hB : schB3 cs l.toArray pre x1 r1 x2 y1 s1 y2 s2 = true) (hl : pick l pre = some lp) (hl1 : pick l (x1 :: r1) = some l1) (hlx : pick l [x2] = some lx) (hl2 : pick l (y1 :: s1) = some l2) (hl3 : pick l (y2 :: s2) = some l3)
  (h : XR c cs l.toArray lp (.inv (J3 c cs l.toArray l1 lx l2 l3 k) :: k) E hp) (hD0 : c.r = none ∨ noDeferL l = true := by first | exact .inl rfl | exact .inr rfl) (hE0 : c.pd = true := by rfl) : X c (.code (.region id l.toArray true) :: k) E hp := by
 intro a w ho hi hw
 have hD := hD0.imp (fun hh => hh) noDeferL_spec
 refine wp_region_three PQ_SQ (PQ_put hE0) cs pre x1 r1 x2 y1 s1 y2 s2 hD hm hB ?_
 obtain ⟨h1, h2⟩ := pick_spec hl
 obtain ⟨h11, h12⟩ := pick_spec hl1
 obtain ⟨h21, h22⟩ := pick_spec hl2
 obtain ⟨h31, h32⟩ := pick_spec hl3
 obtain ⟨hx1, hx2⟩ := pick_spec hlx
 have h0 := h a { w with drawn := w.drawn + 1 } ho ⟨hi.os, hi.tape, hi.output⟩ hw
 rw [PQ_inv] at h0
 have hN2 : ∀ (a : Act) (w : World), J2 c cs l.toArray l2 l3 (SQ c k .normal) k a w → (rgl cs c.P (PQ c k) l.toArray (SQ c k .normal) (y1 :: s1) a w ∧ rgl cs c.P (PQ c k) l.toArray (SQ c k .normal) (y2 :: s2) a w) := by
  intro a w hx
  refine ⟨?_, ?_⟩
  ·have := rgp_rgl _ (fun p hp => by simpa using h22 p hp) a w hx.1
   rwa [h21] at this
  ·have := rgp_rgl _ (fun p hp => by simpa using h32 p hp) a w hx.2
   rwa [h31] at this
 have hN : ∀ (a : Act) (w : World), SQ c (.inv (J3 c cs l.toArray l1 lx l2 l3 k) :: k) .normal a w → (rgl cs c.P (PQ c k) l.toArray (SQ c k .normal) (x1 :: r1) a w ∧ rgl cs c.P (PQ c k) l.toArray (fun a w => rgl cs c.P (PQ c k) l.toArray (SQ c k .normal) (y1 :: s1) a w ∧ rgl cs c.P (PQ c k) l.toArray (SQ c k .normal) (y2 :: s2) a w) [x2] a w) := by
  intro a w hx
  have hx : J3 c cs l.toArray l1 lx l2 l3 k a w := hx
  refine ⟨?_, ?_⟩
  ·have := rgp_rgl _ (fun p hp => by simpa using h12 p hp) a w hx.1
   rwa [h11] at this
  ·have := rgp_rgl _ (fun p hp => by simpa using hx2 p hp) a w (rgp_mono hN2 _ _ _ hx.2)
   rwa [hx1] at this
 have := rgp_rgl _ (fun p hp => by simpa using h2 p hp) a { w with drawn := w.drawn + 1 } (rgp_mono hN _ _ _ h0)
 rwa [h1] at this
attribute [local semireducible] X XR in
theorem X_alt2 {cs : CF} {ops : Array Oper} {l2 l3 : List (Nat × Oper)} {J : Act → World → Prop} (h1 : XR c cs ops l2 (.inv J :: k) E hp) (h2 : XR c cs ops l3 (.inv J :: k) E hp) : X c (.inv (J2 c cs ops l2 l3 J k) :: k) E hp := by
 intro a w ho hi hw
 have e1 := h1 a w ho hi hw
 have e2 := h2 a w ho hi hw
 rw [PQ_inv] at e1 e2
 exact ⟨e1, e2⟩
attribute [local semireducible] X XR MeetJ in
theorem X_alt3 {σ : Type} (EI : σ → Env) (HI : σ → Heap → Prop) {cs : CF} {ops : Array Oper} {l1 lx l2 l3 : List (Nat × Oper)} (h1 : XR c cs ops l1 (.inv (MeetJ c EI HI) :: k) E hp) (h2 : XR c cs ops lx (.inv (J2 c cs ops l2 l3 (MeetJ c EI HI) k) :: k) E hp)
  (hk : ∀ s hp, HI s hp → X c k (EI s) hp) : X c (.inv (J3 c cs ops l1 lx l2 l3 k) :: k) E hp := by
 intro a w ho hi hw
 have hN : ∀ (a : Act) (w : World), MeetJ c EI HI a w → SQ c k .normal a w := by
  rintro a w ⟨s, ho, hi, hh⟩
  exact hk s _ hh a w ho hi rfl
 have e1 := h1 a w ho hi hw
 have e2 := h2 a w ho hi hw
 rw [PQ_inv] at e1 e2
 exact ⟨rgp_mono hN _ _ _ e1, rgp_mono (fun a w hx => ⟨rgp_mono hN _ _ _ hx.1, rgp_mono hN _ _ _ hx.2⟩) _ _ _ e2⟩
attribute [irreducible] J2 J3
end Go.Bn
end

section
set_option linter.unusedVariables false
set_option linter.unusedSimpArgs false
set_option maxHeartbeats 4000000
set_option maxRecDepth 20000
namespace Go.Bn
open Go Proofs
section
variable {P : Program} {E : Env} {hp : Heap} {d : Option Tmp} {t ty : TypeId} {pos : String} {af : Array Edge} {g : Option (Nat × Bool)} {e b : Nat} {zv : Value}
theorem opl_mk_65537 (ht : sliceI P t = some (e, 1, b, [zv])) (hb : Nat.blt 0 b = true) (hs : 65537 * b ≤ 140737488355328) : OpL P ⟨d, .makeSlice t (.const (.int .i64 65537)) (.const (.int .i64 65537)), ty, pos, af, g⟩ E hp (fun v hp' => New (row e 1 v (List.replicate 65537 zv)) hp hp') := opl_mk (k := .i64) (n := 65537) hs rfl ht hb
theorem opl_mk_65536 (ht : sliceI P t = some (e, 1, b, [zv])) (hb : Nat.blt 0 b = true) (hs : 65536 * b ≤ 140737488355328) : OpL P ⟨d, .makeSlice t (.const (.int .i64 65536)) (.const (.int .i64 65536)), ty, pos, af, g⟩ E hp (fun v hp' => New (row e 1 v (List.replicate 65536 zv)) hp hp') := opl_mk (k := .i64) (n := 65536) hs rfl ht hb
end
theorem codecPacks_ret {m c : Nat} {lv : Int} {A : Option Addr} {l : List UInt8} {h0 : Heap} (hr : Rd h0 A (l.map byteV)) (hl : l.length = m) (hmc : m ≤ c) :
  Ret Try.prog 3 [.slice A m c, .int .i64 lv] h0 fun v h' => v = .bool true ∧ Ext h0 h' := by
 refine ret_of_X Try.func3 rfl rfl fun w0 hw0 => ?_
 simp only [argE, Nat.zero_add, Nat.reduceAdd]
 refine X_seq (X_reg (XA rfl rfl rfl (XR_nil (X_seq (X_seq (X_reg (XV rfl rfl rfl ?_)))))))
 refine XR_a (op_len rfl rfl rfl) rfl rfl ?_
 refine XR_a (op_gtr rfl rfl) rfl rfl ?_
 refine XR_nil ?_
 refine X_if rfl (fun h => ?_) (fun h => ?_)
 ·refine X_seq (X_reg ?_)
  refine XR_wa (opl_call (lives14 _) rfl (by kernel_rfl)) rfl rfl rfl ?_
  rintro _ hp ⟨rfl, hx⟩
  refine XA rfl rfl rfl (XR_nil ?_)
  refine X_ret (.cons (.tmp rfl) .nil) ?_
  exact ⟨rfl, hx⟩
 ·refine X_skip (X_seq (X_reg (XV rfl rfl rfl (XV rfl rfl rfl ?_))))
  refine XR_wa (opl_call (cpack_spec (lv := lv) hr hl (by omega)) rfl (by kernel_rfl)) rfl rfl rfl ?_
  rintro _ hp2 ⟨w2, rfl, st⟩
  refine XV rfl rfl rfl (XR_a (op_extract rfl rfl) rfl rfl (XR_a (op_extract rfl rfl) rfl rfl (XR_a (op_extract rfl rfl) rfl rfl (XA rfl rfl rfl (XA rfl rfl rfl (XA rfl rfl rfl (XR_nil (X_seq (X_reg ?_)))))))))
  refine XV rfl rfl rfl (XV rfl rfl rfl ?_)
  refine XR_wa (opl_call (pack14_ref (lv := lv) (hr.ext st.low) hl (by omega) hmc) rfl (by kernel_rfl)) rfl rfl rfl ?_
  rintro _ hp3 ⟨A3, n3, c3, rfl, hl3, hr3, hx3⟩
  replace st := st.ext hx3
  obtain ⟨A2, n2, c2, rfl, hl2, _⟩ := st.row 0 rfl
  rw [List.length_map, Nat.mul_one] at hl2
  refine XV rfl rfl rfl (XR_a (op_extract rfl rfl) rfl rfl (XR_a (op_extract rfl rfl) rfl rfl (XA rfl rfl rfl (XA rfl rfl rfl (XR_nil (X_seq (X_reg ?_)))))))
  refine XR_wa (@opl_mk_65537 _ _ _ _ _ _ _ _ _ _ _ _ rfl rfl (by omega)) rfl rfl rfl ?_
  rintro v31 hp hnew
  replace st := st.new hnew
  obtain ⟨A31, n31, c31, rfl, hl31, _⟩ := st.row 0 rfl
  obtain rfl : n31 = 65537 := by rw [List.length_replicate] at hl31; omega
  refine XR_wa (opl_call (cpack_big (by omega)) rfl (by kernel_rfl)) rfl rfl rfl ?_
  rintro _ _ ⟨rfl, rfl⟩
  refine XV rfl rfl rfl (XR_a (op_extract rfl rfl) rfl rfl (XR_a (op_extract rfl rfl) rfl rfl (XR_a (op_extract rfl rfl) rfl rfl (XA rfl rfl rfl (XA rfl rfl rfl (XA rfl rfl rfl (XR_nil (X_seq (X_reg ?_)))))))))
  refine XV rfl rfl rfl (XV rfl rfl rfl ?_)
  refine XR_a (op_eql rfl rfl) rfl rfl ?_
  refine XR_as (.bool true) (congrArg Value.bool (decide_eq_true rfl)) ?_
  refine XV rfl rfl rfl (XV rfl rfl rfl ?_)
  refine XR_a (op_eql rfl rfl) rfl rfl ?_
  refine XR_as (.bool true) (congrArg Value.bool (decide_eq_true rfl)) ?_
  refine XR_a (op_pick_t rfl rfl) rfl rfl (XV rfl rfl rfl (XV rfl rfl rfl ?_))
  refine XR_a (op_str (st.rdS 1 rfl).2 rfl hl2 rfl rfl rfl) rfl rfl ?_
  refine XV rfl rfl rfl ?_
  refine XR_a (op_str (hr3.ext hnew.1) rfl hl3 rfl rfl rfl) rfl rfl ?_
  refine XR_a (op_eqlS rfl rfl) rfl rfl ?_
  refine XR_as (.bool true) (congrArg Value.bool (decide_eq_true rfl)) ?_
  refine XR_a (op_pick_t rfl rfl) rfl rfl (XV rfl rfl rfl (XV rfl rfl rfl ?_))
  refine XR_a (op_eql rfl rfl) rfl rfl ?_
  refine XR_as (.bool true) (congrArg Value.bool (decide_eq_true rfl)) ?_
  refine XR_a (op_pick_t rfl rfl) rfl rfl (XV rfl rfl rfl (XV rfl rfl rfl ?_))
  refine XR_a (op_len rfl rfl rfl) rfl rfl ?_
  refine XR_a (op_eql rfl rfl) rfl rfl ?_
  refine XR_as (.bool true) (congrArg Value.bool (decide_eq_true rfl)) ?_
  refine XR_a (op_pick_t rfl rfl) rfl rfl (XV rfl rfl rfl ?_)
  refine XR_wa (opl_call (lives14 _) rfl (by kernel_rfl)) rfl rfl rfl ?_
  rintro _ hp5 ⟨rfl, hx5⟩
  refine XR_a (op_pick_t rfl rfl) rfl rfl (XA rfl rfl rfl (XR_nil ?_))
  refine X_ret (.cons (.tmp rfl) .nil) ?_
  exact ⟨rfl, Ext.trans st.low hx5⟩
theorem streamN_big (z : List UInt8) (hz : z.length = 65536) : streamN [z, [1]] 0 [] = ([], 5) := by
 rw [streamN, if_neg (by omega), streamN, if_pos (by rw [List.length_singleton]; omega)]
theorem codecStreams_ret {m c m2 c2 : Nat} {A A2 : Option Addr} {rs : List BR} {area : List UInt8} {h0 : Heap} (hr : Rd h0 A (rs.map BR.v)) (hl : rs.length = m) (hok : ∀ b ∈ rs, b.ok h0) (hr2 : Rd h0 A2 (area.map byteV)) (hl2 : area.length = m2) (hmc2 : m2 ≤ c2) :
  Ret Try.prog 4 [.slice A m c, .slice A2 m2 c2] h0 fun v h' => v = .bool true ∧ Ext h0 h' := by
 refine ret_of_X Try.func4 rfl rfl fun w0 hw0 => ?_
 simp only [argE, Nat.zero_add, Nat.reduceAdd]
 refine X_seq (X_reg (XA rfl rfl rfl (XR_nil (X_seq (X_seq (X_reg (XV rfl rfl rfl ?_)))))))
 refine XR_a (op_len rfl rfl rfl) rfl rfl ?_
 refine XR_a (op_gtr rfl rfl) rfl rfl ?_
 refine XV rfl rfl rfl ?_
 refine XR_if 19 rfl (fun h => ?_) (fun h => ?_)
 ·refine XR_no rfl rfl (XR_no rfl rfl (XR_no rfl rfl (XR_a (op_pick_t rfl rfl) rfl rfl (XR_nil (X_then rfl (X_seq (X_reg ?_)))))))
  refine XR_wa (opl_call (lives14 _) rfl (by kernel_rfl)) rfl rfl rfl ?_
  rintro _ hp ⟨rfl, hx⟩
  refine XA rfl rfl rfl (XR_nil ?_)
  refine X_ret (.cons (.tmp rfl) .nil) ?_
  exact ⟨rfl, hx⟩
 ·refine XV rfl rfl rfl ?_
  refine XR_a (op_len rfl rfl rfl) rfl rfl ?_
  refine XR_a (op_gtr rfl rfl) rfl rfl ?_
  refine XR_a (op_pick_f rfl rfl) rfl rfl (XR_nil ?_)
  refine X_if rfl (fun h => ?_) (fun h => ?_)
  ·refine X_seq (X_reg ?_)
   refine XR_wa (opl_call (lives14 _) rfl (by kernel_rfl)) rfl rfl rfl ?_
   rintro _ hp ⟨rfl, hx⟩
   refine XA rfl rfl rfl (XR_nil ?_)
   refine X_ret (.cons (.tmp rfl) .nil) ?_
   exact ⟨rfl, hx⟩
  ·refine X_skip (X_seq (X_reg (XA rfl rfl rfl (XR_nil (X_seq (X_seq (X_reg (XA rfl rfl rfl (XR_nil ?_)))))))))
   refine X_block ?_
   have st := (St.start h0).nilrow 5 1
   refine X_loop (fun s => m - s.1) (fun s => [(0, .slice A m c), (1, .slice A2 m2 c2), (5, s.2), (6, nV s.1)])
    (fun (s : Nat × Value) hp => s.1 ≤ m ∧ (∀ (j : Nat) (hj : j < rs.length), j < s.1 → (rs[j]).l.length ≤ 3000) ∧ (pieceS (chunksL ((rs.take s.1).map BR.l))).length ≤ 9000 * s.1 ∧ St h0.size h0 hp [row 5 1 s.2 ((pieceS (chunksL ((rs.take s.1).map BR.l))).map byteV)])
    (0, _) (.cons rfl (.cons rfl (.cons rfl (.cons rfl (.nil _))))) ⟨Nat.zero_le _, fun j _ hj => by simp at hj, by simp [chunksL, pieceS], st⟩ ?_
   clear st
   rintro ⟨i, v⟩ hp ⟨hi, hall, htl, st⟩
   simp only at hi hall htl st ⊢
   refine X_seq (X_seq (X_reg (XV rfl rfl rfl (XV rfl rfl rfl ?_))))
   refine XR_a (op_len rfl rfl rfl) rfl rfl ?_
   refine XR_a (op_lss rfl rfl) rfl rfl ?_
   refine XR_nil ?_
   refine X_if rfl (fun h => ?_) (fun h => ?_)
   ·have him : i < rs.length := by omega
    obtain ⟨gb, og, rfl, hc⟩ := (hr.ext st.low).at_ (by rw [List.length_map]; omega)
    have hci := hc i (BR.v rs[i]) (by simp [him])
    have hbo := (hok rs[i] (List.getElem_mem him)).ext st.low
    have hbl := hbo.len
    have htk : pieceS (chunksL ((rs.take (i + 1)).map BR.l)) = pieceS (chunksL ((rs.take i).map BR.l)) ++ pieceB (rs[i]).l := by
     rw [List.take_succ_eq_append_getElem him, List.map_append]
     unfold chunksL pieceB
     rw [List.flatMap_append, pieceS_append]; simp
    have hpb := pieceB_len (rs[i]).l
    have hble := hbo.le
    refine X_skip (X_seq (X_block (X_seq (X_seq (X_reg (XV rfl rfl rfl (XV rfl rfl rfl ?_)))))))
    refine XR_a (op_index1 (i := i) rfl rfl rfl (by omega)) rfl rfl ?_
    refine XR_a (op_ld (hci) rfl rfl rfl) rfl rfl ?_
    refine XR_a (op_len rfl rfl rfl) rfl rfl ?_
    refine XR_a (op_gtr rfl rfl) rfl rfl ?_
    refine XR_nil ?_
    refine X_if rfl (fun h => ?_) (fun h => ?_)
    ·refine X_seq (X_reg ?_)
     refine XR_wa (opl_call (lives14 _) rfl (by kernel_rfl)) rfl rfl rfl ?_
     rintro _ hp ⟨rfl, hx⟩
     refine XA rfl rfl rfl (XR_nil ?_)
     refine X_ret (.cons (.tmp rfl) .nil) ?_
     exact ⟨rfl, Ext.trans st.low hx⟩
    ·refine X_skip (X_seq (X_reg (XV rfl rfl rfl (XV rfl rfl rfl ?_))))
     refine XR_a (op_index1 (i := i) rfl rfl rfl (by omega)) rfl rfl ?_
     refine XR_a (op_ld (hci) rfl rfl rfl) rfl rfl ?_
     refine XR_wa (opl_call (piece14_ref hbo.rd hbl hble (by omega)) rfl (by kernel_rfl)) rfl rfl rfl ?_
     rintro v7 hp3 st3
     have hci := cellH_ext st3.low hci
     have hrd3 := hbo.rd.ext st3.low
     replace st := st.join st3
     simp only [List.cons_append, List.nil_append] at st
     clear st3
     obtain ⟨A7, n7, c7, rfl, hl7, _, _, hr7⟩ := st.row 0 rfl
     rw [List.length_map, Nat.mul_one] at hl7
     refine XA rfl rfl rfl (XR_nil (X_seq (X_seq ?_)))
     refine X_draw_in (butAt [(4, .grow)]) [0, 1, 2, 3, 6, 7, 4, 5, 8] (by kernel_rfl) (by kernel_rfl) rfl ?_
     refine XV rfl rfl rfl (XV rfl rfl rfl ?_)
     refine XR_a (op_index1 (i := i) rfl rfl rfl (by omega)) rfl rfl ?_
     refine XR_a (op_ld (hci) rfl rfl rfl) rfl rfl ?_
     refine XV rfl rfl rfl ?_
     refine XR_a (op_str hr7 rfl hl7 rfl rfl rfl) rfl rfl ?_
     refine XR_ga (opl_call (piece_spec hrd3 hbl hble (by omega)) rfl (by kernel_rfl)) rfl rfl rfl (fun _ _ h => h.low) ?_
     rintro v47 hp4 st4
     have hr7 := hr7.ext st4.low
     replace st := st.ext st4.low
     obtain ⟨A47, n47, c47, rfl, hl47, _, _, hr47⟩ := st4.row 0 rfl
     rw [List.length_map, Nat.mul_one] at hl47
     refine XR_a (op_str hr47 rfl hl47 rfl rfl rfl) rfl rfl ?_
     refine XR_a (op_neqS rfl rfl) rfl rfl ?_
     refine XR_as (.bool false) (congrArg Value.bool (decide_eq_false (fun hh => hh rfl))) ?_
     refine XR_nil (X_else rfl (X_skip (X_reg (XV rfl rfl rfl (XV rfl rfl rfl ?_)))))
     refine XR_wa (opl_append st 1 rfl (hr7) (by rw [List.length_map]; omega) (one_bytes _) (by simp only [List.length_map]; omega) rfl rfl rfl rfl rfl rfl rfl) rfl rfl rfl fun v hp st => ?_
     simp only [List.set_cons_zero, List.set_cons_succ] at st
     rw [← List.map_append, ← htk] at st
     replace st := st.tail
     refine XA rfl rfl rfl (XR_nil (X_blk (X_reg (XV rfl rfl rfl ?_))))
     first | refine XR_a (op_addN (n := 1) rfl rfl (by simp only [inK]; omega)) rfl rfl ?_ | refine XR_a (op_addI rfl rfl (by simp only [inK]; omega)) rfl rfl ?_ | refine XR_a (op_add rfl rfl) rfl rfl ?_
     refine XA rfl rfl rfl (XR_nil ?_)
     refine X_again (i + 1, _) (.cons rfl (.cons rfl (.cons rfl (.cons rfl (.nil _))))) ⟨by simp only; omega, fun j hj hji => ?_, ?_, st⟩ (by simp only; omega)
     ·simp only at hji
      rcases Nat.lt_or_ge j i with h9 | h9
      ·exact hall j hj h9
      ·obtain rfl : j = i := by omega
       omega
     ·simp only; rw [htk, List.length_append]; omega
   ·obtain rfl : i = m := by omega
    rw [List.take_of_length_le (by omega)] at st htl
    obtain ⟨A5, n5, c5, rfl, hl5, _⟩ := st.row 0 rfl
    rw [List.length_map, Nat.mul_one] at hl5
    have hflat : (rs.map BR.l).flatten.length ≤ 3000 * rs.length := by
     have : ∀ (rs : List BR), (∀ (j : Nat) (hj : j < rs.length), (rs[j]).l.length ≤ 3000) → (rs.map BR.l).flatten.length ≤ 3000 * rs.length := by
      intro rs
      induction rs with
      | nil => intro _; simp
      | cons b r ih =>
       intro h
       have h0 := h 0 (by simp)
       have h1 := ih fun j hj => h (j + 1) (by simpa using hj)
       simp only [List.map_cons, List.flatten_cons, List.length_append, List.length_cons, List.getElem_cons_zero] at h0 ⊢
       omega
     exact this rs fun j hj => hall j hj (by omega)
    have hstream := streamN_ok (rs.map BR.l) 0 [] (by omega)
    rw [List.nil_append] at hstream
    refine X_exit rfl (X_seq (X_reg (XV rfl rfl rfl ?_)))
    refine XR_wa (opl_call (stream_spec (hr.ext st.low) hl (fun b hb => (hok b hb).ext st.low) (by omega)) rfl (by kernel_rfl)) rfl rfl rfl ?_
    rintro _ hp3 ⟨v8, rfl, st3⟩
    rw [hstream] at st3 ⊢
    replace st := st.join st3
    simp only [List.cons_append, List.nil_append] at st
    clear st3
    refine XV rfl rfl rfl (XR_a (op_extract rfl rfl) rfl rfl (XR_a (op_extract rfl rfl) rfl rfl (XA rfl rfl rfl (XA rfl rfl rfl (XR_nil (X_seq (X_reg (XV rfl rfl rfl ?_))))))))
    refine XR_wa (opl_call (pieces_spec (hr2.ext st.low) hl2 (by omega) hmc2) rfl (by kernel_rfl)) rfl rfl rfl ?_
    rintro _ hp4 ⟨v10, rfl, st3⟩
    replace st := st.join st3
    simp only [List.cons_append, List.nil_append] at st
    clear st3
    refine XV rfl rfl rfl (XR_a (op_extract rfl rfl) rfl rfl (XR_a (op_extract rfl rfl) rfl rfl (XA rfl rfl rfl (XA rfl rfl rfl (XR_nil (X_seq (X_reg (XV rfl rfl rfl ?_))))))))
    refine XR_wa (opl_call (pieces_ref (hr2.ext st.low) hl2 (by omega) hmc2) rfl (by kernel_rfl)) rfl rfl rfl ?_
    rintro _ hp5 ⟨v12, rfl, st3⟩
    replace st := st.join st3
    simp only [List.cons_append, List.nil_append] at st
    clear st3
    obtain ⟨A12, n12, c12, rfl, hl12, _, _, hr12⟩ := st.row 0 rfl
    obtain ⟨A10, n10, c10, rfl, hl10, _, _, hr10⟩ := st.row 1 rfl
    obtain ⟨A8, n8, c8, rfl, hl8, _, _, hr8⟩ := st.row 2 rfl
    rw [List.length_map, Nat.mul_one] at hl12 hl10 hl8
    refine XV rfl rfl rfl (XR_a (op_extract rfl rfl) rfl rfl (XR_a (op_extract rfl rfl) rfl rfl (XA rfl rfl rfl (XA rfl rfl rfl (XR_nil (X_seq (X_reg ?_)))))))
    refine XR_wa (@opl_mk_65536 _ _ _ _ _ _ _ _ _ _ _ _ rfl rfl (by omega)) rfl rfl rfl ?_
    rintro v71 hp hnew
    replace st := st.new hnew
    obtain ⟨A71, n71, c71, rfl, hl71, hn71, hc71, hr71⟩ := st.row 0 rfl
    obtain rfl : n71 = 65536 := by rw [List.length_replicate] at hl71; omega
    have hr71 : Rd hp A71 ((List.replicate 65536 (0 : UInt8)).map byteV) := by rw [List.map_replicate]; exact hr71
    refine XR_wa (opl_lits [.int .u8 1] rfl rfl rfl rfl (by kernel_rfl) rfl) rfl rfl rfl ?_
    rintro v72 hp hnew
    have hr71 := hr71.ext hnew.1
    replace st := st.new hnew
    obtain ⟨A72, n72, c72, rfl, hl72, hn72, hc72, hr72⟩ := st.row 0 rfl
    obtain rfl : n72 = 1 := by simpa using hl72.symm
    refine XR_wa (opl_lits [.slice A71 65536 c71, .slice A72 1 c72] rfl rfl rfl rfl (by kernel_rfl) rfl) rfl rfl rfl ?_
    rintro v73 hp6 hnew
    have hr71 := hr71.ext hnew.1
    have hr72 := hr72.ext hnew.1
    replace st := st.new hnew
    obtain ⟨A73, n73, c73, rfl, hl73, _, _, hr73⟩ := st.row 0 rfl
    obtain rfl : n73 = 2 := by simpa using hl73.symm
    have hok2 : ∀ b ∈ ([⟨A71, 65536, c71, List.replicate 65536 0⟩, ⟨A72, 1, c72, [1]⟩] : List BR), b.ok hp6 := fun b hb => by
     simp only [List.mem_cons, List.not_mem_nil, or_false] at hb
     rcases hb with rfl | rfl
     ·exact ⟨hr71, List.length_replicate, hn71, hc71⟩
     ·exact ⟨hr72, rfl, hn72, hc72⟩
    refine XR_wa (opl_call (stream_spec (rs := [⟨A71, 65536, c71, List.replicate 65536 0⟩, ⟨A72, 1, c72, [1]⟩]) hr73 rfl hok2 (show (2 : Nat) ≤ 1099511627776 by omega)) rfl (by kernel_rfl)) rfl rfl rfl ?_
    rintro _ hp7 ⟨v14, rfl, st3⟩
    rw [show (([⟨A71, 65536, c71, List.replicate 65536 0⟩, ⟨A72, 1, c72, [1]⟩] : List BR).map BR.l) = [List.replicate 65536 0, [1]] from rfl, streamN_big _ List.length_replicate]
    replace st := st.ext st3.low
    have hr8 := (st.rdS 5 rfl).2
    have hr10 := (st.rdS 4 rfl).2
    have hr12 := (st.rdS 3 rfl).2
    clear st3
    refine XV rfl rfl rfl (XR_a (op_extract rfl rfl) rfl rfl (XR_a (op_extract rfl rfl) rfl rfl (XA rfl rfl rfl (XA rfl rfl rfl (XR_nil (X_seq ?_))))))
    refine X_draw_three (butAt [(28, .grow)]) [0, 1, 2, 3, 5] 4 [6, 7, 8, 9, 10, 11, 12, 13, 14, 15, 16, 17, 18, 19, 20, 21, 22, 23, 24, 25, 26, 27, 28, 29, 30] 6 4 [7, 8, 9, 10, 11, 12, 13, 14, 15, 16, 17, 18, 19, 20, 21, 22, 23, 24, 25, 26, 27, 28, 29, 30] 7 [4, 8, 9, 10, 11, 12, 13, 14, 15, 16, 17, 18, 19, 20, 21, 22, 23, 24, 25, 26, 27, 28, 29, 30] (by kernel_rfl) (by kernel_rfl) rfl rfl rfl rfl rfl ?_
    refine XV rfl rfl rfl ?_
    refine XR_a (op_eql rfl rfl) rfl rfl ?_
    refine XR_as (.bool true) (congrArg Value.bool (decide_eq_true rfl)) ?_
    refine XV rfl rfl rfl (XV rfl rfl rfl (XV rfl rfl rfl (XR_nil ?_)))
    refine X_alt3 (σ := Unit) (fun _ => [(4, .bool true)]) (fun _ hp => Ext h0 hp) ?_ ?_ ?_
    ·refine XR_a (op_str hr8 rfl hl8 rfl rfl rfl) rfl rfl ?_
     refine XR_ga (opl_lits [.int .u8 0, .int .u8 0] rfl rfl rfl rfl (by kernel_rfl) rfl) rfl rfl rfl (fun _ _ e => e.1) ?_
     rintro v83 hp hnew
     have hr10 := hr10.ext hnew.1
     have hr12 := hr12.ext hnew.1
     replace st := st.new hnew
     obtain ⟨A83, n83, c83, rfl, hl83, _, _, hr83⟩ := st.row 0 rfl
     obtain rfl : n83 = 2 := by simpa using hl83.symm
     have hr83 : Rd hp A83 ((leB 2 0).map byteV) := hr83
     refine XR_wa (opl_append st 7 rfl (hr83) (rfl) (one_bytes _) (by simp only [List.length_map, leB_length]; omega) rfl rfl rfl rfl rfl rfl rfl) rfl rfl rfl fun v hp st => ?_
     simp only [List.set_cons_zero, List.set_cons_succ] at st
     rw [← List.map_append, show pieceS (chunksL (rs.map BR.l)) ++ leB 2 0 = streamB (rs.map BR.l) from rfl] at st
     obtain ⟨A84, n84, c84, rfl, hl84, _, _, hr84⟩ := st.row 7 rfl
     rw [List.length_map, Nat.mul_one] at hl84
     refine XR_a (op_str hr84 rfl hl84 rfl rfl rfl) rfl rfl ?_
     refine XR_a (op_eqlS rfl rfl) rfl rfl ?_
     refine XR_as (.bool true) (congrArg Value.bool (decide_eq_true rfl)) ?_
     refine XR_a (op_pick_t rfl rfl) rfl rfl (XV rfl rfl rfl (XV rfl rfl rfl ?_))
     refine XR_a (op_str (st.rdS 5 rfl).2 rfl hl10 rfl rfl rfl) rfl rfl ?_
     refine XV rfl rfl rfl ?_
     refine XR_a (op_str (st.rdS 4 rfl).2 rfl hl12 rfl rfl rfl) rfl rfl ?_
     refine XR_a (op_eqlS rfl rfl) rfl rfl ?_
     refine XR_as (.bool true) (congrArg Value.bool (decide_eq_true rfl)) ?_
     refine XR_a (op_pick_t rfl rfl) rfl rfl (XV rfl rfl rfl (XV rfl rfl rfl (XV rfl rfl rfl ?_)))
     refine XR_a (op_eql rfl rfl) rfl rfl ?_
     refine XR_as (.bool true) (congrArg Value.bool (decide_eq_true rfl)) ?_
     refine XR_a (op_pick_t rfl rfl) rfl rfl (XV rfl rfl rfl (XV rfl rfl rfl ?_))
     refine XR_a (op_eql rfl rfl) rfl rfl ?_
     refine XR_as (.bool true) (congrArg Value.bool (decide_eq_true rfl)) ?_
     refine XR_a (op_pick_t rfl rfl) rfl rfl (XV rfl rfl rfl ?_)
     refine XR_ga (opl_call (lives14 _) rfl (by kernel_rfl)) rfl rfl rfl (fun _ _ h => h.2) ?_
     rintro _ hp9 ⟨rfl, hx9⟩
     refine XR_a (op_pick_t rfl rfl) rfl rfl (XA rfl rfl rfl (XR_nil ?_))
     exact X_meet () (.cons rfl (.nil _)) (Ext.trans st.low hx9)
    ·refine XR_ga (opl_lits [.int .u8 0, .int .u8 0] rfl rfl rfl rfl (by kernel_rfl) rfl) rfl rfl rfl (fun _ _ e => e.1) ?_
     rintro v83 hp hnew
     have hr10 := hr10.ext hnew.1
     have hr12 := hr12.ext hnew.1
     replace st := st.new hnew
     obtain ⟨A83, n83, c83, rfl, hl83, _, _, hr83⟩ := st.row 0 rfl
     obtain rfl : n83 = 2 := by simpa using hl83.symm
     have hr83 : Rd hp A83 ((leB 2 0).map byteV) := hr83
     refine XR_nil ?_
     refine X_alt2 ?_ ?_
     ·refine XR_a (op_str (st.rdS 6 rfl).2 rfl hl8 rfl rfl rfl) rfl rfl ?_
      refine XR_wa (opl_append st 7 rfl (hr83) (rfl) (one_bytes _) (by simp only [List.length_map, leB_length]; omega) rfl rfl rfl rfl rfl rfl rfl) rfl rfl rfl fun v hp st => ?_
      simp only [List.set_cons_zero, List.set_cons_succ] at st
      rw [← List.map_append, show pieceS (chunksL (rs.map BR.l)) ++ leB 2 0 = streamB (rs.map BR.l) from rfl] at st
      obtain ⟨A84, n84, c84, rfl, hl84, _, _, hr84⟩ := st.row 7 rfl
      rw [List.length_map, Nat.mul_one] at hl84
      refine XR_a (op_str hr84 rfl hl84 rfl rfl rfl) rfl rfl ?_
      refine XR_a (op_eqlS rfl rfl) rfl rfl ?_
      refine XR_as (.bool true) (congrArg Value.bool (decide_eq_true rfl)) ?_
      refine XR_a (op_pick_t rfl rfl) rfl rfl (XV rfl rfl rfl (XV rfl rfl rfl ?_))
      refine XR_a (op_str (st.rdS 5 rfl).2 rfl hl10 rfl rfl rfl) rfl rfl ?_
      refine XV rfl rfl rfl ?_
      refine XR_a (op_str (st.rdS 4 rfl).2 rfl hl12 rfl rfl rfl) rfl rfl ?_
      refine XR_a (op_eqlS rfl rfl) rfl rfl ?_
      refine XR_as (.bool true) (congrArg Value.bool (decide_eq_true rfl)) ?_
      refine XR_a (op_pick_t rfl rfl) rfl rfl (XV rfl rfl rfl (XV rfl rfl rfl (XV rfl rfl rfl ?_)))
      refine XR_a (op_eql rfl rfl) rfl rfl ?_
      refine XR_as (.bool true) (congrArg Value.bool (decide_eq_true rfl)) ?_
      refine XR_a (op_pick_t rfl rfl) rfl rfl (XV rfl rfl rfl (XV rfl rfl rfl ?_))
      refine XR_a (op_eql rfl rfl) rfl rfl ?_
      refine XR_as (.bool true) (congrArg Value.bool (decide_eq_true rfl)) ?_
      refine XR_a (op_pick_t rfl rfl) rfl rfl (XV rfl rfl rfl ?_)
      refine XR_ga (opl_call (lives14 _) rfl (by kernel_rfl)) rfl rfl rfl (fun _ _ h => h.2) ?_
      rintro _ hp9 ⟨rfl, hx9⟩
      refine XR_a (op_pick_t rfl rfl) rfl rfl (XA rfl rfl rfl (XR_nil ?_))
      exact X_meet () (.cons rfl (.nil _)) (Ext.trans st.low hx9)
     ·refine XR_wa (opl_append st 7 rfl (hr83) (rfl) (one_bytes _) (by simp only [List.length_map, leB_length]; omega) rfl rfl rfl rfl rfl rfl rfl) rfl rfl rfl fun v hp st => ?_
      simp only [List.set_cons_zero, List.set_cons_succ] at st
      rw [← List.map_append, show pieceS (chunksL (rs.map BR.l)) ++ leB 2 0 = streamB (rs.map BR.l) from rfl] at st
      obtain ⟨A84, n84, c84, rfl, hl84, _, _, hr84⟩ := st.row 7 rfl
      rw [List.length_map, Nat.mul_one] at hl84
      refine XR_a (op_str (st.rdS 6 rfl).2 rfl hl8 rfl rfl rfl) rfl rfl ?_
      refine XR_a (op_str hr84 rfl hl84 rfl rfl rfl) rfl rfl ?_
      refine XR_a (op_eqlS rfl rfl) rfl rfl ?_
      refine XR_as (.bool true) (congrArg Value.bool (decide_eq_true rfl)) ?_
      refine XR_a (op_pick_t rfl rfl) rfl rfl (XV rfl rfl rfl (XV rfl rfl rfl ?_))
      refine XR_a (op_str (st.rdS 5 rfl).2 rfl hl10 rfl rfl rfl) rfl rfl ?_
      refine XV rfl rfl rfl ?_
      refine XR_a (op_str (st.rdS 4 rfl).2 rfl hl12 rfl rfl rfl) rfl rfl ?_
      refine XR_a (op_eqlS rfl rfl) rfl rfl ?_
      refine XR_as (.bool true) (congrArg Value.bool (decide_eq_true rfl)) ?_
      refine XR_a (op_pick_t rfl rfl) rfl rfl (XV rfl rfl rfl (XV rfl rfl rfl (XV rfl rfl rfl ?_)))
      refine XR_a (op_eql rfl rfl) rfl rfl ?_
      refine XR_as (.bool true) (congrArg Value.bool (decide_eq_true rfl)) ?_
      refine XR_a (op_pick_t rfl rfl) rfl rfl (XV rfl rfl rfl (XV rfl rfl rfl ?_))
      refine XR_a (op_eql rfl rfl) rfl rfl ?_
      refine XR_as (.bool true) (congrArg Value.bool (decide_eq_true rfl)) ?_
      refine XR_a (op_pick_t rfl rfl) rfl rfl (XV rfl rfl rfl ?_)
      refine XR_ga (opl_call (lives14 _) rfl (by kernel_rfl)) rfl rfl rfl (fun _ _ h => h.2) ?_
      rintro _ hp9 ⟨rfl, hx9⟩
      refine XR_a (op_pick_t rfl rfl) rfl rfl (XA rfl rfl rfl (XR_nil ?_))
      exact X_meet () (.cons rfl (.nil _)) (Ext.trans st.low hx9)
    clear st hr8 hr10 hr12
    rintro ⟨⟩ hp hx9
    refine X_ret (.cons (.tmp rfl) .nil) ?_
    exact ⟨rfl, hx9⟩
end Go.Bn
end
