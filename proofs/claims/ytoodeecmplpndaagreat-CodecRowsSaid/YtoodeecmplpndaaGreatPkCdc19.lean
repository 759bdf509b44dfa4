/- Packed texts of a claim: what its theorem uses, joined. -/
import Derived.Test.YtoodeecmplpndaaGreatPkCdc18
section
set_option linter.unusedVariables false
set_option linter.unusedSimpArgs false
set_option maxHeartbeats 4000000
set_option maxRecDepth 20000
namespace Go.Bn
open Go Proofs
theorem ccut_spec {n c : Nat} {A : Option Addr} {h0 : Heap} : Ret Tryz.prog 97 [.slice A n c] h0 fun v h' => ∃ p, v = .func (.func 131) #[] #[.pointer (some ⟨p, 0, none⟩)] ∧ St h0.size h0 h' [pt p 22 [.slice A n c]] := by
 refine ret_of_X Tryz.func97 rfl rfl fun w0 hw0 => ?_
 simp only [argE, Nat.zero_add, Nat.reduceAdd]
 have st := St.start h0
 refine X_seq (X_reg ?_)
 refine XR_wa (opl_bx rfl rfl) rfl rfl rfl ?_
 rintro _ hp ⟨p, rfl, hnew⟩
 have st := st.new hnew
 refine XA rfl rfl rfl (XR_nil (X_seq (X_reg ?_)))
 refine XR_a (op_mkFunc rfl) rfl rfl ?_
 refine XA rfl rfl rfl (XR_nil ?_)
 refine X_ret (.cons (.tmp rfl) .nil) ?_
 exact ⟨_, rfl, st⟩
theorem ccut_iter {B y p n c : Nat} {A : Option Addr} {b : List UInt8} {F : List Res} {h0 : Heap} (JR : List (List UInt8) → List Res) (hb : b.length = n) (hnc : n ≤ c) (hm : n ≤ 1099511627776)
  (hrd : ∀ h', Low B h0 h' → Rd h' A (b.map byteV)) (st0 : St B h0 h0 (pt p 22 [.slice A n c] :: (JR [] ++ F)))
  (hround : ∀ (s : List (List UInt8)) (x : List UInt8) (A' : Option Addr) (n' c' : Nat) (F' : List Res) (h : Heap), Low B h0 h → St B h h (JR s ++ F') → (∀ h', Low B h h' → Rd h' A' (x.map byteV)) → x.length = n' → n' ≤ c' → n' ≤ 65535 → s.length ≤ s.flatten.length → s.flatten.length + n' ≤ b.length →
   RRet Tryz.prog y [.slice A' n' c'] h fun v h' => v = .bool true ∧ St B h h' (JR (s ++ [x]) ++ F')) :
  Ret Tryz.prog 131 [.func (.yield y) #[] #[], .pointer (some ⟨p, 0, none⟩)] h0 fun _ h' => St B h0 h' (JR (chunks b) ++ F) := by
 refine ret_of_X Tryz.func131 rfl rfl fun w0 hw0 => ?_
 simp only [argE, Nat.zero_add, Nat.reduceAdd]
 refine X_block ?_
 refine X_loop (fun s => s.2.2.2.2.length) (fun s => [(0, .func (.yield y) #[] #[]), (1, .pointer (some ⟨p, 0, none⟩))])
  (fun (s : List (List UInt8) × Option Addr × Nat × Nat × List UInt8) hp => St B h0 hp (pt p 22 [.slice s.2.1 s.2.2.1 s.2.2.2.1] :: (JR s.1 ++ F)) ∧ (∀ h', Low B h0 h' → Rd h' s.2.1 (s.2.2.2.2.map byteV)) ∧ s.2.2.2.2.length = s.2.2.1 ∧ s.2.2.1 ≤ s.2.2.2.1 ∧
   s.1 ++ chunks s.2.2.2.2 = chunks b ∧ s.1.length ≤ s.1.flatten.length ∧ s.1.flatten.length + s.2.2.2.2.length = b.length)
  ([], A, n, c, b) (.cons rfl (.cons rfl (.nil _))) ⟨st0, hrd, hb, hnc, rfl, by simp, by simp⟩ ?_
 rintro ⟨s, A1, n1, c1, l⟩ hp ⟨st, hrd1, hl, hnc1, hs, hs1, hs2⟩
 simp only at st hrd1 hl hnc1 hs hs1 hs2 ⊢
 refine X_seq (X_seq (X_reg ?_))
 refine XR_a (op_ld (st.cell 0 (i := 0) rfl rfl) rfl rfl rfl) rfl rfl ?_
 refine XR_a (op_len rfl rfl rfl) rfl rfl ?_
 refine XR_a (op_gtr rfl rfl) rfl rfl ?_
 refine XR_nil ?_
 refine X_if rfl (fun h => ?_) (fun h => ?_)
 ·refine X_skip (X_block (X_seq (X_reg ?_)))
  refine XR_a (op_ld (st.cell 0 (i := 0) rfl rfl) rfl rfl rfl) rfl rfl ?_
  refine XR_a (op_len rfl rfl rfl) rfl rfl ?_
  refine XR_a (op_min2 rfl rfl) rfl rfl ?_
  refine XR_as (.int .i64 ((min n1 65535 : Nat) : Int)) (congrArg (Value.int .i64) (by omega)) ?_
  have hk1 : min n1 65535 ≤ n1 := Nat.min_le_left _ _
  have hk2 : min n1 65535 ≤ 65535 := Nat.min_le_right _ _
  have hk3 : 0 < min n1 65535 := by omega
  have htk : l.take (min n1 65535) = l.take 65535 := by
   rcases Nat.le_total n1 65535 with h9 | h9
   ·rw [Nat.min_eq_left h9, List.take_of_length_le (by omega), List.take_of_length_le (by omega)]
   ·rw [Nat.min_eq_right h9]
  have hdr : l.drop (min n1 65535) = l.drop 65535 := by
   rcases Nat.le_total n1 65535 with h9 | h9
   ·rw [Nat.min_eq_left h9, List.drop_of_length_le (by omega), List.drop_of_length_le (by omega)]
   ·rw [Nat.min_eq_right h9]
  have hch := chunks_cons (l := l) (by omega)
  rw [← htk, ← hdr] at hch
  generalize min n1 65535 = k at *
  refine XA rfl rfl rfl (XR_nil (X_seq (X_seq (X_reg (XV rfl rfl rfl ?_)))))
  refine XR_a (op_ld (st.cell 0 (i := 0) rfl rfl) rfl rfl rfl) rfl rfl ?_
  refine XV rfl rfl rfl ?_
  refine XR_a (op_slice_h rfl rfl rfl (by omega)) rfl rfl ?_
  rw [cutA_zero]
  refine XR_ya (opy_yield rfl (hround s (l.take k) A1 k c1 (pt p 22 [.slice A1 n1 c1] :: F) _ st.low (st.here.perm List.perm_middle.symm) (fun h' hl => by rw [List.map_take]; exact (hrd1 _ (st.low.trans hl)).take k) (by rw [List.length_take]; omega) (by omega) (by omega) hs1 (by omega)) rfl) rfl rfl rfl ?_
  rintro _ hp ⟨rfl, st2⟩
  replace st := st.trans (st2.perm List.perm_middle)
  first | refine XR_a (op_notd rfl) rfl rfl ?_ | refine XR_a (op_not rfl) rfl rfl ?_
  refine XR_nil (X_else rfl (X_skip (X_reg ?_)))
  refine XR_a (op_ld (st.cell 0 (i := 0) rfl rfl) rfl rfl rfl) rfl rfl ?_
  refine XV rfl rfl rfl ?_
  refine XR_a (op_slice_l rfl rfl rfl (by omega) (by omega)) rfl rfl ?_
  refine XR_wn (opl_store_pt st 0 rfl rfl rfl rfl rfl (rfl)) rfl rfl fun _ hp st => ?_
  simp only [List.set_cons_zero, List.set_cons_succ] at st
  refine XR_nil (X_blk ?_)
  refine X_again (s ++ [l.take k], cutA A1 k 1 c1, n1 - k, c1 - k, l.drop k) (.cons rfl (.cons rfl (.nil _))) ⟨st, fun h' hlow => ?_, ?_, ?_, ?_, ?_, ?_⟩ ?_
  ·have hcut := (hrd1 h' hlow).cut k 1 c1 (n1 - k) (by intro hh; simp; omega)
   rw [Nat.mul_one, ← List.map_drop, ← List.map_take, List.take_of_length_le (i := n1 - k) (by rw [List.length_drop]; omega)] at hcut
   exact hcut
  ·simp only [List.length_drop]; omega
  ·simp only; omega
  ·simp only; rw [← hs, hch]; simp
  ·simp only [List.flatten_append, List.flatten_cons, List.flatten_nil, List.append_nil, List.length_append, List.length_cons, List.length_nil, List.length_take]; omega
  ·simp only [List.flatten_append, List.flatten_cons, List.flatten_nil, List.append_nil, List.length_append, List.length_take, List.length_drop]; omega
  ·simp only [List.length_drop]; omega
 ·refine X_exit rfl ?_
  refine X_end .nil ?_
  have hl0 : l = [] := List.eq_nil_of_length_eq_zero (by omega)
  rw [hl0, chunks_nil, List.append_nil] at hs
  rw [← hs]
  exact st.tail
theorem piece_spec {n c : Nat} {A : Option Addr} {b : List UInt8} {h0 : Heap} (hr : Rd h0 A (b.map byteV)) (hb : b.length = n) (hnc : n ≤ c) (hm : n ≤ 68719476736) :
  Ret Tryz.prog 59 [.slice A n c] h0 fun v h' => St h0.size h0 h' [row 5 1 v ((pieceB b).map byteV)] := by
 refine ret_of_X Tryz.func59 rfl rfl fun w0 hw0 => ?_
 simp only [argE, Nat.zero_add, Nat.reduceAdd]
 have st := St.start h0
 refine X_seq (X_reg (XA rfl rfl rfl (XR_nil (X_seq (X_reg ?_)))))
 refine XR_wa (opl_new rfl) rfl rfl rfl ?_
 rintro _ hp ⟨p3, rfl, hnew⟩
 replace st := st.new hnew
 refine XR_nil (X_seq (X_seq (X_reg (XV rfl rfl rfl ?_))))
 refine XR_wa (opl_call (ccut_spec) rfl (by kernel_rfl)) rfl rfl rfl ?_
 rintro _ hp ⟨pc, rfl, st2⟩
 replace st := st.join st2
 simp only [List.cons_append, List.nil_append] at st
 refine XR_nil (X_block ?_)
 refine X_rangeS st rfl rfl (by kernel_rfl) fun fn tmps L y d hp1 hL hok hx1 st1 => ?_
 have st1' := (st1.nilrow 5 1).re 5 [4, 0, 3, 1, 2] (by decide)
 simp only [List.map_cons, List.map_nil, getR] at st1'
 have st2 := St.perm (St.ex.2 ⟨Value.slice none 0 0, St.star.2 st1'⟩ : St h0.size h0 hp1 ((exR fun v => starR (pt p3 22 [v]) (row 5 1 v ((pieceS []).map byteV))) :: _)) (List.Perm.swap _ _ _)
 refine Ret.mono (ccut_iter (B := h0.size) (y := y) (F := [obj d (.deferred (some []))]) (fun s => [exR fun v => starR (pt p3 22 [v]) (row 5 1 v ((pieceS s).map byteV)), obj y (L .ready none)]) hb hnc (by omega) (fun h' hlow => hr.ext (st1.low.trans hlow)) st2.here ?_) ?_
 ·intro s x A' n' c' F' h hlow st2 hrx hlx hnx hx16 hs1 hs2
  subst hL
  simp only [List.cons_append, List.nil_append] at st2
  obtain ⟨v, st2⟩ := St.ex.1 st2
  replace st2 := (St.star.1 st2)
  have hpl := pieceS_len s
  obtain ⟨A5, n5, c5, rfl, hlen5, _, _, _⟩ := st2.row 1 rfl
  refine rret_of_X (st2.obj_at 2 rfl) hok rfl rfl fun w0 hw0 => ?_
  simp only [penv]
  refine X_reg (XA rfl rfl rfl (XR_nil ?_))
  refine X_begin (st2.obj_at 2 rfl) ?_
  have st := st2.loop 2 .busy none rfl
  simp only [List.set_cons_zero, List.set_cons_succ] at st
  refine X_block (X_reg ?_)
  refine XR_a (op_ld (st.cell 0 (i := 0) rfl rfl) rfl rfl rfl) rfl rfl ?_
  refine XV rfl rfl rfl ?_
  refine XR_a (op_len rfl rfl rfl) rfl rfl ?_
  first | refine XR_a (op_convI rfl rfl (by simp only [inK]; omega)) rfl rfl ?_ | refine XR_a (op_convU rfl rfl rfl) rfl rfl ?_ | refine XR_a (op_conv rfl rfl) rfl rfl ?_
  refine XR_wa (opl_call (fput_spec (n := n') (st.here.perm (List.Perm.swap _ _ _)) (by omega) (by omega)) rfl (by kernel_rfl)) rfl rfl rfl ?_
  rintro v7 hp st3
  have st := (st.trans st3).perm (List.Perm.swap _ _ _)
  rw [wid2] at st
  refine XV rfl rfl rfl ?_
  refine XR_wa (opl_append st 1 rfl (hrx _ st.low) (by simpa using hlx) (one_bytes _) (by simp [leB_length]; omega) rfl rfl rfl rfl rfl rfl rfl) rfl rfl rfl fun v hp st => ?_
  simp only [List.set_cons_zero, List.set_cons_succ] at st
  rw [← List.map_append] at st
  obtain ⟨A6, n6, c6, rfl, hlen6, _, _, _⟩ := st.row 1 rfl
  refine XR_wn (opl_store_pt st 0 rfl rfl rfl rfl rfl (rfl)) rfl rfl fun _ hp st => ?_
  simp only [List.set_cons_zero, List.set_cons_succ] at st
  refine XR_nil (X_blk ?_)
  refine X_rnd (st.obj_at 2 rfl) ⟨rfl, ?_⟩
  replace st := st.loop 2 .ready none rfl
  simp only [List.set_cons_zero, List.set_cons_succ] at st
  rw [show pieceS s ++ leB 2 n' ++ x = pieceS (s ++ [x]) by rw [pieceS_snoc, hlx]] at st
  exact St.ex.2 ⟨_, St.star.2 st⟩
 rintro v h' st2
 simp only [List.cons_append, List.nil_append] at st2
 refine .inl ⟨_, (st1.trans st2).perm (List.Perm.swap _ _ _), fun hp3 st3 => ?_⟩
 obtain ⟨v9, st3⟩ := St.ex.1 (st3.perm (List.Perm.swap _ _ _))
 have st := St.star.1 st3
 refine X_blk (X_seq (X_reg ?_))
 refine XR_a (op_ld (st.cell 0 (i := 0) rfl rfl) rfl rfl rfl) rfl rfl ?_
 refine XA rfl rfl rfl (XR_nil ?_)
 refine X_retM (d := d) (.cons (.tmp rfl) .nil) ?_ (st.obj_at 3 rfl)
 replace st := st.put 3 (.deferred none) rfl
 exact st.tail.only
theorem pieceB_len (l : List UInt8) : (pieceB l).length ≤ 3 * l.length := by
 obtain ⟨h1, h2⟩ := chunks_ok l.length l (Nat.le_refl _)
 have h3 := flatten_len_ge (s := chunks l) fun x hx => (h2 x hx).1
 rw [h1] at h3
 simp only [pieceB, pieceS_len, h1]; omega
theorem stream_spec {m c : Nat} {A : Option Addr} {rs : List BR} {h0 : Heap} (hr : Rd h0 A (rs.map BR.v)) (hl : rs.length = m) (hok : ∀ b ∈ rs, b.ok h0) (hm : m ≤ 1099511627776) :
  Ret Tryz.prog 28 [.slice A m c] h0 fun v h' => ∃ v1, v = retVal [v1, .int .i64 (streamN (rs.map BR.l) 0 []).2] ∧ St h0.size h0 h' [row 5 1 v1 ((streamN (rs.map BR.l) 0 []).1.map byteV)] := by
 obtain ⟨R, hR⟩ : ∃ R, streamN (rs.map BR.l) 0 [] = R := ⟨_, rfl⟩
 rw [hR]
 refine ret_of_X Tryz.func28 rfl rfl fun w0 hw0 => ?_
 simp only [argE, Nat.zero_add, Nat.reduceAdd]
 refine X_seq (X_reg (XA rfl rfl rfl (XA rfl rfl rfl (XR_nil (X_seq (X_reg (XA rfl rfl rfl (XR_nil (X_seq ?_)))))))))
 refine X_reg (XA rfl rfl rfl (XR_nil (X_seq (X_seq (X_reg (XV rfl rfl rfl ?_))))))
 refine XR_a (op_len rfl rfl rfl) rfl rfl ?_
 refine XV rfl rfl rfl (XR_nil (X_block ?_))
 have st := (St.start h0).nilrow 5 1
 refine X_loop (fun s => m - s.1) (fun s => [(8, .slice A m c), (9, .int .i64 (m : Int)), (10, .int .i64 (s.1 : Int)), (4, s.2.2.1), (5, .int .i64 (s.2.1 : Int))])
  (fun (s : Nat × Nat × Value × List UInt8) hp => St h0.size h0 hp [row 5 1 s.2.2.1 (s.2.2.2.map byteV)] ∧ s.1 ≤ m ∧ s.2.1 ≤ 65536 ∧ s.2.2.2.length ≤ 3 * s.2.1 ∧ streamN ((rs.drop s.1).map BR.l) s.2.1 s.2.2.2 = R)
  (0, 0, _, []) (.cons rfl (.cons rfl (.cons rfl (.cons rfl (.cons rfl (.nil _)))))) ⟨st, by simp, by simp, by simp, hR⟩ ?_
 clear st
 rintro ⟨i, n, v, out⟩ hp ⟨st, hi, hn, hout, hS⟩
 simp only at st hi hn hout hS ⊢
 refine X_seq (X_reg ?_)
 refine XR_a (op_lss rfl rfl) rfl rfl ?_
 refine XR_nil (X_seq ?_)
 refine X_if rfl (fun h => ?_) (fun h => ?_)
 ·have him : i < rs.length := by omega
  obtain ⟨gb, o, rfl, hc⟩ := (hr.ext st.low).at_ (by rw [List.length_map]; omega)
  have hci := hc i (BR.v rs[i]) (by simp [him])
  have hbo := hok rs[i] (List.getElem_mem him)
  rw [List.drop_eq_getElem_cons him, List.map_cons, streamN] at hS
  have hpb := pieceB_len rs[i].l
  have hbl := hbo.len
  obtain ⟨b, hb⟩ : ∃ b, rs[i] = b := ⟨_, rfl⟩
  rw [hb] at hci hbo hS hpb hbl
  refine X_skip (X_seq (X_block (X_seq (X_reg ?_))))
  first | refine XR_a (op_index1 rfl rfl rfl (by omega)) rfl rfl ?_ | refine XR_a (op_index rfl rfl rfl (by omega)) rfl rfl ?_
  refine XR_a (op_ld (hci) rfl rfl rfl) rfl rfl ?_
  refine XA rfl rfl rfl (XR_nil (X_seq (X_seq (X_reg (XV rfl rfl rfl ?_)))))
  refine XR_a (op_len rfl rfl rfl) rfl rfl ?_
  refine XV rfl rfl rfl ?_
  refine XR_a (op_subN (m := 65536) (n := n) rfl rfl (by omega) (by simp only [inK]; omega)) rfl rfl ?_
  refine XR_a (op_gtr rfl rfl) rfl rfl ?_
  refine XR_nil ?_
  refine X_if rfl (fun h => ?_) (fun h => ?_)
  ·refine X_seq (X_reg (XA rfl rfl rfl (XA rfl rfl rfl (XR_nil ?_))))
   refine X_ret (.cons (.tmp rfl) (.cons (.tmp rfl) .nil)) ?_
   rw [if_pos (by omega)] at hS
   rw [← hS]
   exact ⟨_, rfl, (st.nilrow 5 1).only⟩
  ·rw [if_neg (by omega)] at hS
   refine X_skip (X_seq (X_reg (XV rfl rfl rfl (XV rfl rfl rfl ?_))))
   refine XR_a (op_len rfl rfl rfl) rfl rfl ?_
   first | refine XR_a (op_addN rfl rfl (by simp only [inK]; omega)) rfl rfl ?_ | refine XR_a (op_addI rfl rfl (by simp only [inK]; omega)) rfl rfl ?_ | refine XR_a (op_add rfl rfl) rfl rfl ?_
   refine XA rfl rfl rfl (XR_nil (X_reg (XV rfl rfl rfl (XV rfl rfl rfl ?_))))
   refine XR_wa (opl_call (piece_spec (hbo.rd.ext st.low) hbl hbo.le (by omega)) rfl (by kernel_rfl)) rfl rfl rfl ?_
   rintro v2 hp st2
   obtain ⟨A2, n2, c2, rfl, hlen2, _, _, hrd2⟩ := st2.row 0 rfl
   replace st := st.ext st2.low
   refine XR_wa (opl_append st 0 rfl (hrd2) (by simpa using hlen2) (one_bytes _) (by simp; omega) rfl rfl rfl rfl rfl rfl rfl) rfl rfl rfl fun v hp st => ?_
   simp only [List.set_cons_zero, List.set_cons_succ] at st
   rw [← List.map_append] at st
   refine XA rfl rfl rfl (XR_nil (X_blk (X_reg ?_)))
   first | refine XR_a (op_addN (n := 1) rfl rfl (by simp only [inK]; omega)) rfl rfl ?_ | refine XR_a (op_addI rfl rfl (by simp only [inK]; omega)) rfl rfl ?_ | refine XR_a (op_add rfl rfl) rfl rfl ?_
   refine XV rfl rfl rfl (XR_nil ?_)
   exact X_again (i + 1, n + b.l.length, v, out ++ pieceB b.l) (.cons rfl (.cons rfl (.cons rfl (.cons rfl (.cons (by rw [hbl]; rfl) (.nil _)))))) ⟨st, by simp only; omega, by simp only; omega, by simp only [List.length_append]; omega, hS⟩ (by simp only; omega)
 ·obtain rfl : i = m := by omega
  rw [List.drop_of_length_le (by omega), List.map_nil, streamN] at hS
  refine X_exit rfl (X_seq (X_reg (XV rfl rfl rfl ?_)))
  refine XR_wa (opl_call (fput_spec (n := 0) st.here (by omega) (by omega)) rfl (by kernel_rfl)) rfl rfl rfl ?_
  rintro v2 hp st2
  replace st := st.trans st2
  rw [wid2] at st
  refine XA rfl rfl rfl (XA rfl rfl rfl (XR_nil ?_))
  refine X_ret (.cons (.tmp rfl) (.cons (.tmp rfl) .nil)) ?_
  rw [← hS]
  exact ⟨_, rfl, st⟩
end Go.Bn
end

section
set_option linter.unusedVariables false
set_option linter.unusedSimpArgs false
set_option maxHeartbeats 4000000
set_option maxRecDepth 20000
namespace Go.Bn
open Go Proofs
theorem codecRows_ret {m c : Nat} {o : Int} {A : Option Addr} {rs : List BR} {h0 : Heap} (hr : Rd h0 A (rs.map BR.v)) (hl : rs.length = m) (hok : ∀ b ∈ rs, b.ok h0) :
  Ret Tryz.prog 7 [.slice A m c, .int .i64 o] h0 fun v h' => v = .bool true ∧ Ext h0 h' := by
 refine ret_of_X Tryz.func7 rfl rfl fun w0 hw0 => ?_
 simp only [argE, Nat.zero_add, Nat.reduceAdd]
 refine X_seq (X_reg (XA rfl rfl rfl (XR_nil (X_seq (X_seq (X_reg (XV rfl rfl rfl ?_)))))))
 refine XR_a (op_len rfl rfl rfl) rfl rfl ?_
 refine XR_a (op_gtr rfl rfl) rfl rfl ?_
 refine XR_nil ?_
 refine X_if rfl (fun h => ?_) (fun h => ?_)
 ·refine X_seq (X_reg ?_)
  refine XR_wa (opl_call (lives14 _) rfl (by kernel_rfl)) rfl rfl rfl ?_
  rintro _ hp ⟨rfl, hx⟩
  refine XA rfl rfl rfl (XR_nil ?_)
  refine X_ret (.cons (.tmp rfl) .nil) ?_
  exact ⟨rfl, hx⟩
 ·refine X_skip (X_seq (X_reg (XA rfl rfl rfl (XR_nil (X_seq (X_seq (X_reg (XA rfl rfl rfl (XR_nil ?_)))))))))
  refine X_block ?_
  have st := (St.start h0).nilrow 5 1
  refine X_loop (fun s => m - s.1) (fun s => [(0, .slice A m c), (1, .int .i64 o), (5, s.2), (6, nV s.1)])
   (fun (s : Nat × Value) hp => s.1 ≤ m ∧ (∀ (j : Nat) (hj : j < rs.length), j < s.1 → (rs[j]).l.length ≤ 3000) ∧ (((rs.take s.1).map BR.l).flatten).length ≤ 3000 * s.1 ∧ St h0.size h0 hp [row 5 1 s.2 ((((rs.take s.1).map BR.l).flatten).map byteV)])
   (0, _) (.cons rfl (.cons rfl (.cons rfl (.cons rfl (.nil _))))) ⟨Nat.zero_le _, fun j _ hj => by simp at hj, by simp, st⟩ ?_
  clear st
  rintro ⟨i, v⟩ hp ⟨hi, hall, htl, st⟩
  simp only at hi hall htl st ⊢
  refine X_seq (X_seq (X_reg (XV rfl rfl rfl (XV rfl rfl rfl ?_))))
  refine XR_a (op_len rfl rfl rfl) rfl rfl ?_
  refine XR_a (op_lss rfl rfl) rfl rfl ?_
  refine XR_nil ?_
  refine X_if rfl (fun h => ?_) (fun h => ?_)
  ·have him : i < rs.length := by omega
   obtain ⟨gb, og, rfl, hc⟩ := (hr.ext st.low).at_ (by rw [List.length_map]; omega)
   have hci := hc i (BR.v rs[i]) (by simp [him])
   have hbo := (hok rs[i] (List.getElem_mem him)).ext st.low
   have hbl := hbo.len
   have htk : ((rs.take (i + 1)).map BR.l).flatten = ((rs.take i).map BR.l).flatten ++ (rs[i]).l := by rw [List.take_succ_eq_append_getElem him, List.map_append, List.flatten_append]; simp
   refine X_skip (X_seq (X_block (X_seq (X_seq (X_reg (XV rfl rfl rfl (XV rfl rfl rfl ?_)))))))
   refine XR_a (op_index1 (i := i) rfl rfl rfl (by omega)) rfl rfl ?_
   refine XR_a (op_ld (hci) rfl rfl rfl) rfl rfl ?_
   refine XR_a (op_len rfl rfl rfl) rfl rfl ?_
   refine XR_a (op_gtr rfl rfl) rfl rfl ?_
   refine XR_nil ?_
   refine X_if rfl (fun h => ?_) (fun h => ?_)
   ·refine X_seq (X_reg ?_)
    refine XR_wa (opl_call (lives14 _) rfl (by kernel_rfl)) rfl rfl rfl ?_
    rintro _ hp ⟨rfl, hx⟩
    refine XA rfl rfl rfl (XR_nil ?_)
    refine X_ret (.cons (.tmp rfl) .nil) ?_
    exact ⟨rfl, Ext.trans st.low hx⟩
   ·refine X_skip (X_reg (XV rfl rfl rfl (XV rfl rfl rfl (XV rfl rfl rfl ?_))))
    refine XR_a (op_index1 (i := i) rfl rfl rfl (by omega)) rfl rfl ?_
    refine XR_a (op_ld (hci) rfl rfl rfl) rfl rfl ?_
    refine XR_wa (opl_append st 0 rfl (hbo.rd) (by rw [List.length_map]; omega) (one_bytes _) (by simp only [List.length_map]; omega) rfl rfl rfl rfl rfl rfl rfl) rfl rfl rfl fun v hp st => ?_
    simp only [List.set_cons_zero, List.set_cons_succ] at st
    rw [← List.map_append, ← htk] at st
    refine XA rfl rfl rfl (XR_nil (X_blk (X_reg (XV rfl rfl rfl ?_))))
    first | refine XR_a (op_addN (n := 1) rfl rfl (by simp only [inK]; omega)) rfl rfl ?_ | refine XR_a (op_addI rfl rfl (by simp only [inK]; omega)) rfl rfl ?_ | refine XR_a (op_add rfl rfl) rfl rfl ?_
    refine XA rfl rfl rfl (XR_nil ?_)
    refine X_again (i + 1, _) (.cons rfl (.cons rfl (.cons rfl (.cons rfl (.nil _))))) ⟨by simp only; omega, fun j hj hji => ?_, ?_, st⟩ (by simp only; omega)
    ·simp only at hji
     rcases Nat.lt_or_ge j i with h9 | h9
     ·exact hall j hj h9
     ·obtain rfl : j = i := by omega
      omega
    ·simp only; rw [htk, List.length_append]; omega
  ·obtain rfl : i = m := by omega
   rw [List.take_of_length_le (by omega)] at st htl
   obtain ⟨A5, n5, c5, rfl, hl5, _⟩ := st.row 0 rfl
   rw [List.length_map, Nat.mul_one] at hl5
   have hstream := streamN_ok (rs.map BR.l) 0 [] (by omega)
   rw [List.nil_append] at hstream
   have hal := streamB_len (rs.map BR.l)
   obtain ⟨hb1, hb2⟩ := stream_back (rs.map BR.l) (by omega)
   refine X_exit rfl (X_seq (X_reg (XV rfl rfl rfl ?_)))
   refine XR_wa (opl_call (stream_spec (hr.ext st.low) hl (fun b hb => (hok b hb).ext st.low) (by omega)) rfl (by kernel_rfl)) rfl rfl rfl ?_
   rintro _ hp3 ⟨v7, rfl, st3⟩
   rw [hstream] at st3 ⊢
   replace st := st.join st3
   simp only [List.cons_append, List.nil_append] at st
   clear st3
   obtain ⟨L, hL⟩ : ∃ L, (rs.map BR.l).flatten = L := ⟨_, rfl⟩
   obtain ⟨SB, hSB⟩ : ∃ S, streamB (rs.map BR.l) = S := ⟨_, rfl⟩
   rw [hL, hSB] at st hb1 hb2
   rw [hL] at hl5 htl
   rw [hL, hSB] at hal
   subst hl5
   obtain ⟨A7, n7, c7, rfl, hl7, hn7, _, hr7⟩ := st.row 0 rfl
   rw [List.length_map, Nat.mul_one] at hl7
   refine XV rfl rfl rfl (XR_a (op_extract rfl rfl) rfl rfl (XR_a (op_extract rfl rfl) rfl rfl (XA rfl rfl rfl (XA rfl rfl rfl (XR_nil (X_seq (X_reg (XV rfl rfl rfl (XV rfl rfl rfl ?_)))))))))
   refine XR_a (op_len rfl rfl rfl) rfl rfl ?_
   refine XR_wa (opl_call (cunpack_spec (mt := 2) (size := (L.length : Int)) hr7 hl7 (by omega) hn7) rfl (by kernel_rfl)) rfl rfl rfl ?_
   rintro _ hp4 ⟨w4, rfl, st4⟩
   rw [hb1] at st4 ⊢
   replace st := st.join st4
   simp only [List.cons_append, List.nil_append] at st
   clear st4
   refine XV rfl rfl rfl (XR_a (op_extract rfl rfl) rfl rfl (XR_a (op_extract rfl rfl) rfl rfl (XA rfl rfl rfl (XA rfl rfl rfl (XR_nil (X_seq (X_reg (XV rfl rfl rfl (XV rfl rfl rfl ?_)))))))))
   refine XR_wa (opl_call (cunpack_spec (mt := 2) (size := o) (st.rdS 1 rfl).2 hl7 (by omega) hn7) rfl (by kernel_rfl)) rfl rfl rfl ?_
   rintro _ hp5 ⟨w5, rfl, st5⟩
   have ho := hb2 o
   obtain ⟨U, hU⟩ : ∃ U, unpackU 2 SB o = U := ⟨_, rfl⟩
   rw [hU] at ho st5 ⊢
   replace st := st.ext st5.low
   obtain ⟨A4, n4, c4, rfl, hl4, _, _, hr4⟩ := st.row 0 rfl
   rw [List.length_map, Nat.mul_one] at hl4
   refine XV rfl rfl rfl (XR_a (op_extract rfl rfl) rfl rfl (XR_a (op_extract rfl rfl) rfl rfl (XA rfl rfl rfl (XA rfl rfl rfl (XR_nil (X_seq (X_reg (XV rfl rfl rfl ?_))))))))
   refine XR_a (op_eql rfl rfl) rfl rfl ?_
   refine XR_as (.bool true) (congrArg Value.bool (decide_eq_true rfl)) ?_
   refine XV rfl rfl rfl (XV rfl rfl rfl ?_)
   refine XR_a (op_eql rfl rfl) rfl rfl ?_
   refine XR_as (.bool true) (congrArg Value.bool (decide_eq_true rfl)) ?_
   refine XR_a (op_pick_t rfl rfl) rfl rfl (XV rfl rfl rfl (XV rfl rfl rfl ?_))
   refine XR_a (op_str hr4 rfl hl4 rfl rfl rfl) rfl rfl ?_
   refine XV rfl rfl rfl ?_
   refine XR_a (op_str (st.rdS 2 rfl).2 rfl rfl rfl rfl rfl) rfl rfl ?_
   refine XR_a (op_eqlS rfl rfl) rfl rfl ?_
   refine XR_as (.bool true) (congrArg Value.bool (decide_eq_true rfl)) ?_
   refine XR_a (op_pick_t rfl rfl) rfl rfl (XV rfl rfl rfl (XV rfl rfl rfl ?_))
   refine XR_a (op_eql rfl rfl) rfl rfl ?_
   refine XV rfl rfl rfl (XV rfl rfl rfl ?_)
   refine XR_a (op_len rfl rfl rfl) rfl rfl ?_
   refine XR_a (op_eql rfl rfl) rfl rfl ?_
   refine XR_a (op_eqlB rfl rfl rfl) rfl rfl ?_
   refine XR_as (.bool true) (congrArg Value.bool (decide_eq_true (decide_eq_decide.2 ⟨fun hh => ho.1 (by omega), fun hh => by have := ho.2 hh; omega⟩))) ?_
   refine XR_a (op_pick_t rfl rfl) rfl rfl (XV rfl rfl rfl ?_)
   refine XR_wa (opl_call (lives14 _) rfl (by kernel_rfl)) rfl rfl rfl ?_
   rintro _ hp6 ⟨rfl, hx6⟩
   refine XR_a (op_pick_t rfl rfl) rfl rfl (XA rfl rfl rfl (XR_nil ?_))
   refine X_ret (.cons (.tmp rfl) .nil) ?_
   exact ⟨rfl, Ext.trans st.low hx6⟩
end Go.Bn
end
