/- Packed texts of a claim: what its theorem uses, joined. -/
import Derived.Test.YtoodeecmplpndaaPkS7x8
section
set_option linter.unusedVariables false
set_option linter.unusedSimpArgs false
set_option maxHeartbeats 4000000
set_option maxRecDepth 20000
namespace Go.Bn
open Go Proofs
theorem insertion_nil {c : Nat} {A : Option Addr} {fn : Value} {h0 : Heap} : Ret Try.prog 137 [.slice A 0 c, nV 0, nV 0, fn] h0 fun _ h' => h0 = h' := by
 refine ret_of_X Try.func137 rfl rfl fun w0 hw0 => ?_
 simp only [argE, Nat.zero_add, Nat.reduceAdd]
 refine X_seq (X_reg (XV rfl rfl rfl ?_))
 first | refine XR_a (op_addN (n := 1) rfl rfl (by simp only [inK]; omega)) rfl rfl ?_ | refine XR_a (op_addI rfl rfl (by simp only [inK]; omega)) rfl rfl ?_ | refine XR_a (op_add rfl rfl) rfl rfl ?_
 refine XA rfl rfl rfl (XR_nil (X_block ?_))
 refine X_loop (fun _ => 0) (fun (_ : Unit) => [(2, nV 0), (8, nV 1)]) (fun _ hp => h0 = hp) () (.cons rfl (.cons rfl (.nil _))) rfl ?_
 rintro ⟨⟩ hp rfl
 refine X_seq (X_seq (X_reg (XV rfl rfl rfl (XV rfl rfl rfl ?_))))
 refine XR_a (op_lss rfl rfl) rfl rfl ?_
 refine XR_nil ?_
 refine X_if rfl (fun h => ?_) (fun h => ?_)
 ·exact absurd h (by omega)
 ·refine X_exit rfl ?_
  refine X_end .nil ?_
  rfl
theorem stable_nil {c : Nat} {A : Option Addr} {fn : Value} {h0 : Heap} : Ret Try.prog 132 [.slice A 0 c, nV 0, fn] h0 fun _ h' => h0 = h' := by
 refine ret_of_X Try.func132 rfl rfl fun w0 hw0 => ?_
 simp only [argE, Nat.zero_add, Nat.reduceAdd]
 refine X_seq (X_reg (XA rfl rfl rfl (XR_nil (X_seq (X_reg (XV rfl rfl rfl (XA rfl rfl rfl (XA rfl rfl rfl (XR_nil ?_)))))))))
 refine X_seq (X_block ?_)
 refine X_loop (fun _ => 0) (fun (_ : Unit) => [(0, .slice A 0 c), (1, nV 0), (2, fn), (6, nV 20), (7, nV 0), (8, nV 20)]) (fun _ hp => h0 = hp) () (.cons rfl (.cons rfl (.cons rfl (.cons rfl (.cons rfl (.cons rfl (.nil _))))))) rfl ?_
 rintro ⟨⟩ hp rfl
 refine X_seq (X_seq (X_reg (XV rfl rfl rfl (XV rfl rfl rfl ?_))))
 refine XR_a (op_leq rfl rfl) rfl rfl ?_
 refine XR_nil ?_
 refine X_if rfl (fun h => ?_) (fun h => ?_)
 ·exact absurd h (by omega)
 ·refine X_exit rfl (X_seq (X_reg (XV rfl rfl rfl (XV rfl rfl rfl (XV rfl rfl rfl (XV rfl rfl rfl ?_))))))
  refine XR_wa (opl_call (insertion_nil) rfl (by kernel_rfl)) rfl rfl rfl ?_
  rintro _ _ rfl
  refine XR_nil (X_block ?_)
  refine X_loop (fun _ => 0) (fun (_ : Unit) => [(1, nV 0), (6, nV 20)]) (fun _ hp' => h0 = hp') () (.cons rfl (.cons rfl (.nil _))) rfl ?_
  rintro ⟨⟩ hp rfl
  refine X_seq (X_seq (X_reg (XV rfl rfl rfl (XV rfl rfl rfl ?_))))
  refine XR_a (op_lss rfl rfl) rfl rfl ?_
  refine XR_nil ?_
  refine X_if rfl (fun h => ?_) (fun h => ?_)
  ·exact absurd h (by omega)
  ·refine X_exit rfl ?_
   refine X_end .nil ?_
   rfl
theorem sortStable_nil {c : Nat} {A : Option Addr} {fn : Value} {h0 : Heap} : Ret Try.prog 106 [.slice A 0 c, fn] h0 fun _ h' => h0 = h' := by
 refine ret_of_X Try.func106 rfl rfl fun w0 hw0 => ?_
 simp only [argE, Nat.zero_add, Nat.reduceAdd]
 refine X_reg (XV rfl rfl rfl (XV rfl rfl rfl ?_))
 refine XR_a (op_len rfl rfl rfl) rfl rfl ?_
 refine XV rfl rfl rfl ?_
 refine XR_wa (opl_call (stable_nil) rfl (by kernel_rfl)) rfl rfl rfl ?_
 rintro _ _ rfl
 refine XR_nil ?_
 refine X_end .nil ?_
 rfl
theorem sortStable_row {B k : Nat} {v : Value} {l0 : List Nat} {caps : Array Value} {key : Nat → Nat} {good : Nat → Prop} {F : List Res} {h0 : Heap} (st0 : St B h0 h0 (Bn.row 3 1 v (l0.map nV) :: F)) (hcmp : CmpOK B h0 F k caps key good)
  (hlt : l0.Pairwise (· < ·)) (hg : ∀ x ∈ l0, good x) (hn : l0.length ≤ 1099511627776) :
  Ret Try.prog 106 [v, .func (.func k) #[] caps] h0 fun _ h' => ∃ l, l.Perm l0 ∧ RkS key l ∧ St B h0 h' (Bn.row 3 1 v (l.map nV) :: F) := by
 rcases Nat.eq_zero_or_pos l0.length with h | h
 ·obtain rfl := List.eq_nil_of_length_eq_zero h
  obtain ⟨A, n, c, rfl, hl, _⟩ := st0.row 0 rfl
  obtain rfl : n = 0 := by simpa using hl.symm
  refine Ret.mono sortStable_nil ?_
  rintro _ h' rfl
  exact ⟨[], List.Perm.refl _, List.Pairwise.nil, st0⟩
 ·obtain ⟨g, n, c, rfl, hl, _⟩ := st0.row0 0 rfl (by rw [List.length_map]; exact h)
  rw [List.length_map] at hl
  exact sortStable_spec st0 hcmp hlt hg (by omega)
theorem items1_spec {B hn n c p x y : Nat} {A : Option Addr} {ws : List Nat} {hb h0 : Heap} {r : Res} {F : List Res} (st : St B hb h0 (r :: pt p 72 [.slice A n c] :: F)) (hr : Rd h0 A (ws.map nV)) (hl : ws.length = n) (hx : x < n) (hy : y < n) :
  Ret Try.prog 107 [nV x, nV y, .pointer (some ⟨p, 0, none⟩)] h0 fun v h' => v = .int .i64 (cmpI (wkey ws x) (wkey ws y)) ∧ h0 = h' := by
 obtain ⟨g, o, rfl, hc⟩ := hr.at_ (by rw [List.length_map]; omega)
 have hcx := hc x (nV (wkey ws x)) (by unfold wkey; simp [List.getD, hl, hx])
 have hcy := hc y (nV (wkey ws y)) (by unfold wkey; simp [List.getD, hl, hy])
 refine ret_of_X Try.func107 rfl rfl fun w0 hw0 => ?_
 simp only [argE, Nat.zero_add, Nat.reduceAdd]
 refine X_seq (X_reg (XA rfl rfl rfl (XR_nil (X_seq ?_))))
 refine X_draw byKind (by kernel_rfl) (by kernel_rfl) ?_
 refine XR_a (op_ld (st.cell 1 (i := 0) rfl rfl) rfl rfl rfl) rfl rfl ?_
 refine XV rfl rfl rfl ?_
 first | refine XR_a (op_index1 rfl rfl rfl (by omega)) rfl rfl ?_ | refine XR_a (op_index rfl rfl rfl (by omega)) rfl rfl ?_
 refine XR_a (op_ld (hcx) rfl rfl rfl) rfl rfl ?_
 refine XR_a (op_ld (st.cell 1 (i := 0) rfl rfl) rfl rfl rfl) rfl rfl ?_
 refine XV rfl rfl rfl ?_
 first | refine XR_a (op_index1 rfl rfl rfl (by omega)) rfl rfl ?_ | refine XR_a (op_index rfl rfl rfl (by omega)) rfl rfl ?_
 refine XR_a (op_ld (hcy) rfl rfl rfl) rfl rfl ?_
 refine XR_wa (opl_call (compare_spec) rfl (by kernel_rfl)) rfl rfl rfl ?_
 rintro _ _ ⟨rfl, rfl⟩
 refine XA rfl rfl rfl (XR_nil ?_)
 refine X_ret (.cons (.tmp rfl) .nil) ?_
 exact ⟨rfl, rfl⟩
def fltTo (ws : List Nat) (i : Nat) : List Nat := (List.range i).filter fun s => decide (0 < wkey ws s)
theorem fltTo_succ (ws : List Nat) (i : Nat) : fltTo ws (i + 1) = fltTo ws i ++ if 0 < wkey ws i then [i] else [] := by
 unfold fltTo
 rw [List.range_succ, List.filter_append]
 by_cases h : 0 < wkey ws i <;> simp [h]
theorem fltTo_len (ws : List Nat) (i : Nat) : (fltTo ws i).length ≤ i := by
 have := List.length_filter_le (fun s => decide (0 < wkey ws s)) (List.range i)
 rwa [List.length_range] at this
theorem items_spec {n c : Nat} {A : Option Addr} {ws : List Nat} {h0 : Heap} (hr : Rd h0 A (ws.map nV)) (hl : ws.length = n) (hn : n ≤ 1048576) :
  Ret Try.prog 81 [.slice A n c] h0 fun v h' => St h0.size h0 h' [row 3 1 v ((syms ws).map nV)] := by
 refine ret_of_X Try.func81 rfl rfl fun w0 hw0 => ?_
 simp only [argE, Nat.zero_add, Nat.reduceAdd]
 have st := St.start h0
 refine X_seq (X_reg ?_)
 refine XR_wa (opl_bx rfl rfl) rfl rfl rfl ?_
 rintro _ hp ⟨p, rfl, hnew⟩
 replace st := st.new hnew
 refine XA rfl rfl rfl (XR_nil (X_seq (X_reg (XA rfl rfl rfl (XR_nil (X_seq (X_seq (X_reg ?_))))))))
 refine XR_a (op_ld (st.cell 0 (i := 0) rfl rfl) rfl rfl rfl) rfl rfl ?_
 refine XR_a (op_len rfl rfl rfl) rfl rfl ?_
 refine XV rfl rfl rfl (XR_nil (X_block ?_))
 replace st := st.nilrow 3 1
 refine X_loop (fun s => n - s.1) (fun s => [(1, .pointer (some ⟨p, 0, none⟩)), (3, s.2), (6, .slice A n c), (7, nV n), (8, nV s.1)])
  (fun (s : Nat × Value) hp => St h0.size h0 hp [row 3 1 s.2 ((fltTo ws s.1).map nV), pt p 72 [.slice A n c]] ∧ s.1 ≤ n)
  (0, _) (.cons rfl (.cons rfl (.cons rfl (.cons rfl (.cons rfl (.nil _)))))) ⟨st, by simp only; omega⟩ ?_
 clear st
 rintro ⟨i, v⟩ hp ⟨st, hi⟩
 simp only at st hi ⊢
 refine X_seq (X_reg ?_)
 refine XR_a (op_lss rfl rfl) rfl rfl ?_
 refine XR_nil (X_seq ?_)
 refine X_if rfl (fun h => ?_) (fun h => ?_)
 ·have hlt : i < ws.length := by omega
  obtain ⟨g, o, rfl, hc⟩ := hr.at_ (by rw [List.length_map]; omega)
  have hci := cellH_ext (a := ⟨g, o + i, none⟩) st.low (hc i (nV (wkey ws i)) (by unfold wkey; simp [List.getD, hlt]))
  have hfs := fltTo_succ ws i
  have hfl := fltTo_len ws i
  refine X_skip (X_seq (X_block (X_seq (X_reg (XV rfl rfl rfl ?_)))))
  first | refine XR_a (op_index1 rfl rfl rfl (by omega)) rfl rfl ?_ | refine XR_a (op_index rfl rfl rfl (by omega)) rfl rfl ?_
  refine XR_a (op_ld (hci) rfl rfl rfl) rfl rfl ?_
  refine XA rfl rfl rfl (XA rfl rfl rfl (XR_nil (X_seq (X_reg (XV rfl rfl rfl ?_)))))
  refine XR_a (op_gtr rfl rfl) rfl rfl ?_
  refine XR_nil ?_
  refine X_if rfl (fun h => ?_) (fun h => ?_)
  ·refine X_reg (XV rfl rfl rfl (XV rfl rfl rfl ?_))
   refine XR_wa (opl_var1 rfl rfl rfl) rfl rfl rfl ?_
   rintro _ hp ⟨A, rfl, hx, hrd⟩
   have st := st.ext hx
   refine XR_wa (opl_append st 0 rfl (hrd) (rfl) (by simp [Value.one, byteV]) (by simp; omega) rfl rfl rfl rfl rfl rfl rfl) rfl rfl rfl fun v hp st => ?_
   simp only [List.set_cons_zero, List.set_cons_succ] at st
   rw [if_pos (by omega)] at hfs
   have e : (fltTo ws i).map nV ++ [nV i] = (fltTo ws (i + 1)).map nV := by rw [hfs]; simp
   rw [e] at st
   refine XA rfl rfl rfl (XR_nil (X_blk (X_reg ?_)))
   first | refine XR_a (op_addN (n := 1) rfl rfl (by simp only [inK]; omega)) rfl rfl ?_ | refine XR_a (op_addI rfl rfl (by simp only [inK]; omega)) rfl rfl ?_ | refine XR_a (op_add rfl rfl) rfl rfl ?_
   refine XV rfl rfl rfl (XR_nil ?_)
   exact X_again (i + 1, v) (.cons rfl (.cons rfl (.cons rfl (.cons rfl (.cons rfl (.nil _)))))) ⟨st, by simp only; omega⟩ (by simp only; omega)
  ·refine X_skip (X_blk (X_reg ?_))
   first | refine XR_a (op_addN (n := 1) rfl rfl (by simp only [inK]; omega)) rfl rfl ?_ | refine XR_a (op_addI rfl rfl (by simp only [inK]; omega)) rfl rfl ?_ | refine XR_a (op_add rfl rfl) rfl rfl ?_
   refine XV rfl rfl rfl (XR_nil ?_)
   rw [if_neg (by omega), List.append_nil] at hfs
   rw [← hfs] at st
   exact X_again (i + 1, v) (.cons rfl (.cons rfl (.cons rfl (.cons rfl (.cons rfl (.nil _)))))) ⟨st, by simp only; omega⟩ (by simp only; omega)
 ·obtain rfl : i = n := by omega
  have hfe : fltTo ws i = flt ws := by unfold fltTo flt; rw [hl]
  rw [hfe] at st
  have hfl := fltTo_len ws i
  rw [hfe] at hfl
  refine X_exit rfl (X_seq (X_reg (XV rfl rfl rfl ?_)))
  refine XR_a (op_mkFunc rfl) rfl rfl ?_
  refine XR_wa (opl_call (sortStable_row (k := 107) (key := wkey ws) (good := fun s => s < i) st.here ⟨by kernel_rfl, fun r h' s x y hx hy => items1_spec (hn := 0) s (hr.ext (st.low.trans s.low)) hl hx hy⟩ (flt_asc ws) (fun x hx => by have := (List.mem_filter.1 hx).1; rw [List.mem_range] at this; omega) (by omega)) rfl (by kernel_rfl)) rfl rfl rfl ?_
  rintro _ hp2 ⟨l, hl1, hl2, st2⟩
  replace st := st.trans st2
  rw [syms_eq hl1 hl2] at st
  refine XR_nil (X_seq (X_reg (XV rfl rfl rfl (XA rfl rfl rfl (XR_nil ?_)))))
  refine X_ret (.cons (.tmp rfl) .nil) ?_
  exact st.keep 1
def eC (e : PE) : List Value := [nV e.1, .bool (isItem e)]
theorem one_eC (e : PE) : ∀ u ∈ eC e, Value.one u = true := by intro u hu; simp only [eC, List.mem_cons, List.not_mem_nil, or_false] at hu; rcases hu with rfl | rfl <;> rfl
theorem merge_item {I P : List PE} {i k : Nat} (hi : i < I.length) (h : ∀ hk : k < P.length, I[i].1 ≤ P[k].1) : (I.drop i).merge (P.drop k) lePE = I[i] :: (I.drop (i + 1)).merge (P.drop k) lePE := by
 rw [List.drop_eq_getElem_cons hi]
 rcases Nat.lt_or_ge k P.length with hk | hk
 ·rw [List.drop_eq_getElem_cons hk, List.cons_merge_cons_pos _ _ _ (lePE_iff.2 (h hk))]
 ·rw [List.drop_of_length_le hk, List.merge_right, List.merge_right]
theorem merge_pair {I P : List PE} {i k : Nat} (hk : k < P.length) (h : ∀ hi : i < I.length, ¬ I[i].1 ≤ P[k].1) : (I.drop i).merge (P.drop k) lePE = P[k] :: (I.drop i).merge (P.drop (k + 1)) lePE := by
 rw [List.drop_eq_getElem_cons hk]
 rcases Nat.lt_or_ge i I.length with hi | hi
 ·rw [List.drop_eq_getElem_cons hi, List.cons_merge_cons_neg _ _ _ (fun hh => h hi (lePE_iff.1 hh))]
 ·rw [List.drop_of_length_le hi, List.nil_merge, List.nil_merge]
theorem pairsE_at : ∀ (k : Nat) (l : List PE) (h : k < (pairsE l).length) (h1 : 2 * k + 1 < l.length), (pairsE l)[k] = ((l[2 * k]'(by omega)).1 + l[2 * k + 1].1, (l[2 * k]'(by omega)).2 ++ l[2 * k + 1].2)
 | _, [], h, _ => by simp [pairsE] at h
 | _, [_], h, _ => by simp [pairsE] at h
 | 0, x :: y :: r, h, _ => by simp [pairsE]
 | k + 1, x :: y :: r, h, h1 => by
  have ih := pairsE_at k r (by simp [pairsE] at h; exact h) (by simp at h1; omega)
  simp only [pairsE, List.getElem_cons_succ, ih, show 2 * (k + 1) = 2 * k + 1 + 1 by omega]
theorem next_spec {n c m d q e : Nat} {A B C : Option Addr} {ws sy : List Nat} {prev : List PE} {h0 : Heap} (hr : Rd h0 A (ws.map nV)) (hl : ws.length = n) (hs : Rd h0 B (sy.map nV)) (hm : sy.length = m) (hp : Rd h0 C (prev.flatMap eC)) (hq : prev.length = q)
  (hsy : ∀ s ∈ sy, s < n) (hmm : m ≤ 1048576) (hqm : q ≤ 2097152) (hpw : ∀ e ∈ prev, e.1 ≤ 1152921504606846976) (hp1 : ∀ e ∈ prev, 1 ≤ e.2.length) :
  Ret Try.prog 111 [.slice A n c, .slice B m d, .slice C q e] h0 fun v h' => St h0.size h0 h' [row 162 2 v (((itemsE (sy.map (wkey ws))).merge (pairsE prev) lePE).flatMap eC)] := by
 have hIl : (itemsE (sy.map (wkey ws))).length = m := by rw [itemsE_length, List.length_map, hm]
 have hPl := pairsE_length prev
 rw [hq] at hPl
 have hIi : ∀ i (hi : i < m), (itemsE (sy.map (wkey ws)))[i]'(by omega) = (wkey ws (sy[i]'(by omega)), [i]) := fun i hi => by
  rw [itemsE_get (by rw [List.length_map]; omega), List.getElem_map]
 have hPi := fun k h h1 => pairsE_at k prev h h1
 obtain ⟨I, hI⟩ : ∃ I, itemsE (sy.map (wkey ws)) = I := ⟨_, rfl⟩
 obtain ⟨P, hP⟩ : ∃ P, pairsE prev = P := ⟨_, rfl⟩
 simp only [hI, hP] at hIl hPl hIi hPi ⊢
 refine ret_of_X Try.func111 rfl rfl fun w0 hw0 => ?_
 simp only [argE, Nat.zero_add, Nat.reduceAdd]
 refine X_seq (X_reg (XA rfl rfl rfl (XR_nil (X_seq (X_reg (XA rfl rfl rfl (XR_nil (X_seq (X_reg ?_)))))))))
 refine XA rfl rfl rfl (XA rfl rfl rfl (XR_nil (X_seq (X_block ?_))))
 have st := (St.start h0).nilrow 162 2
 refine X_loop (fun s => m + q - s.1 - s.2.1) (fun s => [(0, .slice A n c), (1, .slice B m d), (2, .slice C q e), (7, s.2.2.1), (8, nV s.1), (9, nV (2 * s.2.1))])
  (fun (s : Nat × Nat × Value × List PE) hp => St h0.size h0 hp [row 162 2 s.2.2.1 (s.2.2.2.flatMap eC)] ∧ s.1 ≤ m ∧ s.2.1 ≤ q / 2 ∧ s.2.2.2.length = s.1 + s.2.1 ∧ s.2.2.2 ++ (I.drop s.1).merge (P.drop s.2.1) lePE = I.merge P lePE)
  (0, 0, _, []) (.cons rfl (.cons rfl (.cons rfl (.cons rfl (.cons rfl (.cons rfl (.nil _))))))) ⟨st, by simp only; omega, by simp only; omega, rfl, by simp⟩ ?_
 clear st
 rintro ⟨i, k, v, out⟩ hp2 ⟨st, hi, hk, hout, hmg⟩
 simp only at st hi hk hout hmg ⊢
 refine X_seq (X_seq (X_reg (XV rfl rfl rfl (XV rfl rfl rfl ?_))))
 refine XR_a (op_len rfl rfl rfl) rfl rfl ?_
 refine XR_a (op_lss rfl rfl) rfl rfl ?_
 refine XV rfl rfl rfl ?_
 refine XR_if 15 rfl (fun h => ?_) (fun h => ?_)
 ·have h15 := h
  refine XR_no rfl rfl (XR_no rfl rfl (XR_no rfl rfl (XR_no rfl rfl (XR_no rfl rfl (XR_a (op_pick_t rfl rfl) rfl rfl (XR_nil (X_then rfl (X_skip (X_block ?_)))))))))
  refine X_seq (X_reg (XV rfl rfl rfl ?_))
  first | refine XR_a (op_addN (n := 1) rfl rfl (by simp only [inK]; omega)) rfl rfl ?_ | refine XR_a (op_addI rfl rfl (by simp only [inK]; omega)) rfl rfl ?_ | refine XR_a (op_add rfl rfl) rfl rfl ?_
  refine XV rfl rfl rfl ?_
  refine XR_a (op_len rfl rfl rfl) rfl rfl ?_
  refine XR_a (op_lss rfl rfl) rfl rfl ?_
  refine XA rfl rfl rfl (XR_nil (X_seq (X_seq ?_)))
  have hx := st.low
  refine X_draw byKind (by kernel_rfl) (by kernel_rfl) ?_
  refine XV rfl rfl rfl (XV rfl rfl rfl ?_)
  refine XR_a (op_len rfl rfl rfl) rfl rfl ?_
  refine XR_a (op_lss rfl rfl) rfl rfl ?_
  refine XV rfl rfl rfl ?_
  refine XR_if 31 rfl (fun h => ?_) (fun h => ?_)
  ·have h31 := h
   obtain ⟨gB, oB, rfl, hcB⟩ := hs.at_ (by rw [List.length_map]; omega)
   have him : i < sy.length := by omega
   have hsn := hsy _ (List.getElem_mem him)
   obtain ⟨gA, oA, rfl, hcA⟩ := hr.at_ (by rw [List.length_map]; omega)
   have hIe := hIi i (by omega)
   have hlB := fun {hp : Heap} (hx : Ext h0 hp) => cellH_ext (a := ⟨gB, oB + i, none⟩) hx (hcB i (nV sy[i]) (by simp [him]))
   have hlA := fun {hp : Heap} (hx : Ext h0 hp) => cellH_ext (a := ⟨gA, oA + sy[i], none⟩) hx (hcA sy[i] (nV (wkey ws sy[i])) (by unfold wkey; simp [List.getD, hl, hsn]))
   obtain ⟨s, hse⟩ : ∃ s, sy[i] = s := ⟨_, rfl⟩
   rw [hse] at hsn hlA hlB hIe
   obtain ⟨w, hwe⟩ : ∃ w, wkey ws s = w := ⟨_, rfl⟩
   rw [hwe] at hlA hIe
   refine XV rfl rfl rfl ?_
   first | refine XR_a (op_notd rfl) rfl rfl ?_ | refine XR_a (op_not rfl) rfl rfl ?_
   refine XV rfl rfl rfl ?_
   refine XR_if 34 rfl (fun h => ?_) (fun h => ?_)
   ·refine XR_no rfl rfl (XR_no rfl rfl (XR_no rfl rfl (XR_no rfl rfl (XR_no rfl rfl (XR_no rfl rfl (XR_no rfl rfl (XR_no rfl rfl (XR_no rfl rfl (XR_no rfl rfl ?_)))))))))
    refine XR_no rfl rfl (XR_no rfl rfl (XR_no rfl rfl (XR_no rfl rfl (XR_no rfl rfl (XR_no rfl rfl (XR_no rfl rfl (XR_no rfl rfl (XR_no rfl rfl (XR_no rfl rfl ?_)))))))))
    refine XR_a (op_pick_t rfl rfl) rfl rfl (XR_a (op_pick_t rfl rfl) rfl rfl (XR_nil (X_then rfl (X_seq (X_reg (XV rfl rfl rfl (XV rfl rfl rfl (XV rfl rfl rfl (XV rfl rfl rfl ?_)))))))))
    first | refine XR_a (op_index1 rfl rfl rfl (by omega)) rfl rfl ?_ | refine XR_a (op_index rfl rfl rfl (by omega)) rfl rfl ?_
    refine XR_a (op_ld (hlB st.low) rfl rfl rfl) rfl rfl ?_
    first | refine XR_a (op_index1 rfl rfl rfl (by omega)) rfl rfl ?_ | refine XR_a (op_index rfl rfl rfl (by omega)) rfl rfl ?_
    refine XR_a (op_ld (hlA st.low) rfl rfl rfl) rfl rfl ?_
    refine XR_a (op_build (ps := [(0, nV w), (1, .bool true)]) (cs := #[nV w, .bool true]) rfl rfl) rfl rfl ?_
    refine XR_wa (opl_varA (us := [nV w, .bool true]) rfl rfl rfl rfl (by kernel_rfl)) rfl rfl rfl ?_
    rintro _ hp ⟨A9, rfl, hx9, hrd⟩
    replace st := st.ext hx9
    refine XR_wa (opl_append st 0 rfl (hrd) (rfl) (one_eC (w, [i])) (by rw [flat_length _ 2 (fun _ => rfl)]; simp; omega) rfl rfl rfl rfl rfl rfl rfl) rfl rfl rfl fun v hp st => ?_
    simp only [List.set_cons_zero, List.set_cons_succ] at st
    have e2 : out.flatMap eC ++ [nV w, .bool true] = (out ++ [(w, [i])]).flatMap eC := by rw [List.flatMap_append]; rfl
    rw [e2] at st
    refine XA rfl rfl rfl (XR_nil (X_seq (X_reg (XV rfl rfl rfl ?_))))
    first | refine XR_a (op_addN (n := 1) rfl rfl (by simp only [inK]; omega)) rfl rfl ?_ | refine XR_a (op_addI rfl rfl (by simp only [inK]; omega)) rfl rfl ?_ | refine XR_a (op_add rfl rfl) rfl rfl ?_
    refine XA rfl rfl rfl (XR_nil (X_exit rfl ?_))
    refine X_again (i + 1, k, v, out ++ [(w, [i])]) (.cons rfl (.cons rfl (.cons rfl (.cons rfl (.cons rfl (.cons rfl (.nil _))))))) ⟨st, by simp only; omega, hk, by simp only [List.length_append, List.length_cons, List.length_nil]; omega, ?_⟩ (by simp only; omega)
    rw [← hmg, merge_item (I := I) (P := P) (i := i) (k := k) (by omega) (fun hk9 => by omega), hIe]
    simp
   ·obtain ⟨gC, oC, rfl, hcC⟩ := Rd.flat eC 2 hp (fun _ => rfl) (by omega) (by omega)
    have hk1 : 2 * k < prev.length := by omega
    have hk2 : 2 * k + 1 < prev.length := by omega
    have hl1 := fun {hp : Heap} (hx : Ext h0 hp) => cellH_ext (a := ⟨gC, oC + 2 * k * 2 + 0, none⟩) hx (hcC (2 * k) hk1 0 (nV prev[2 * k].1) rfl)
    have hl2 := fun {hp : Heap} (hx : Ext h0 hp) => cellH_ext (a := ⟨gC, oC + (2 * k + 1) * 2 + 0, none⟩) hx (hcC (2 * k + 1) hk2 0 (nV prev[2 * k + 1].1) rfl)
    have hw1 := hpw _ (List.getElem_mem hk1)
    have hw2 := hpw _ (List.getElem_mem hk2)
    have hPe := hPi k (by omega) hk2
    refine XV rfl rfl rfl (XV rfl rfl rfl (XV rfl rfl rfl ?_))
    first | refine XR_a (op_index1 rfl rfl rfl (by omega)) rfl rfl ?_ | refine XR_a (op_index rfl rfl rfl (by omega)) rfl rfl ?_
    refine XR_a (op_ld (hlB st.low) rfl rfl rfl) rfl rfl ?_
    first | refine XR_a (op_index1 rfl rfl rfl (by omega)) rfl rfl ?_ | refine XR_a (op_index rfl rfl rfl (by omega)) rfl rfl ?_
    refine XR_a (op_ld (hlA st.low) rfl rfl rfl) rfl rfl ?_
    refine XV rfl rfl rfl (XV rfl rfl rfl ?_)
    refine XR_a (op_index (i := 2 * k) rfl rfl rfl (by omega)) rfl rfl ?_
    first | refine XR_a (op_field0 rfl rfl) rfl rfl ?_ | refine XR_a (op_fieldn rfl rfl) rfl rfl ?_
    refine XR_a (op_ld (hl1 st.low) rfl rfl rfl) rfl rfl ?_
    refine XV rfl rfl rfl (XV rfl rfl rfl ?_)
    first | refine XR_a (op_addN (n := 1) rfl rfl (by simp only [inK]; omega)) rfl rfl ?_ | refine XR_a (op_addI rfl rfl (by simp only [inK]; omega)) rfl rfl ?_ | refine XR_a (op_add rfl rfl) rfl rfl ?_
    refine XR_a (op_index (i := 2 * k + 1) rfl rfl rfl (by omega)) rfl rfl ?_
    first | refine XR_a (op_field0 rfl rfl) rfl rfl ?_ | refine XR_a (op_fieldn rfl rfl) rfl rfl ?_
    refine XR_a (op_ld (hl2 st.low) rfl rfl rfl) rfl rfl ?_
    first | refine XR_a (op_addN rfl rfl (by simp only [inK]; omega)) rfl rfl ?_ | refine XR_a (op_addI rfl rfl (by simp only [inK]; omega)) rfl rfl ?_ | refine XR_a (op_add rfl rfl) rfl rfl ?_
    refine XR_a (op_leq rfl rfl) rfl rfl ?_
    refine XR_a (op_pick_f rfl rfl) rfl rfl (XR_a (op_pick_t rfl rfl) rfl rfl (XR_nil ?_))
    refine X_if rfl (fun h => ?_) (fun h => ?_)
    ·refine X_seq (X_reg (XV rfl rfl rfl (XV rfl rfl rfl (XV rfl rfl rfl (XV rfl rfl rfl ?_)))))
     first | refine XR_a (op_index1 rfl rfl rfl (by omega)) rfl rfl ?_ | refine XR_a (op_index rfl rfl rfl (by omega)) rfl rfl ?_
     refine XR_a (op_ld (hlB st.low) rfl rfl rfl) rfl rfl ?_
     first | refine XR_a (op_index1 rfl rfl rfl (by omega)) rfl rfl ?_ | refine XR_a (op_index rfl rfl rfl (by omega)) rfl rfl ?_
     refine XR_a (op_ld (hlA st.low) rfl rfl rfl) rfl rfl ?_
     refine XR_a (op_build (ps := [(0, nV w), (1, .bool true)]) (cs := #[nV w, .bool true]) rfl rfl) rfl rfl ?_
     refine XR_wa (opl_varA (us := [nV w, .bool true]) rfl rfl rfl rfl (by kernel_rfl)) rfl rfl rfl ?_
     rintro _ hp ⟨A9, rfl, hx9, hrd⟩
     replace st := st.ext hx9
     refine XR_wa (opl_append st 0 rfl (hrd) (rfl) (one_eC (w, [i])) (by rw [flat_length _ 2 (fun _ => rfl)]; simp; omega) rfl rfl rfl rfl rfl rfl rfl) rfl rfl rfl fun v hp st => ?_
     simp only [List.set_cons_zero, List.set_cons_succ] at st
     have e2 : out.flatMap eC ++ [nV w, .bool true] = (out ++ [(w, [i])]).flatMap eC := by rw [List.flatMap_append]; rfl
     rw [e2] at st
     refine XA rfl rfl rfl (XR_nil (X_seq (X_reg (XV rfl rfl rfl ?_))))
     first | refine XR_a (op_addN (n := 1) rfl rfl (by simp only [inK]; omega)) rfl rfl ?_ | refine XR_a (op_addI rfl rfl (by simp only [inK]; omega)) rfl rfl ?_ | refine XR_a (op_add rfl rfl) rfl rfl ?_
     refine XA rfl rfl rfl (XR_nil (X_exit rfl ?_))
     refine X_again (i + 1, k, v, out ++ [(w, [i])]) (.cons rfl (.cons rfl (.cons rfl (.cons rfl (.cons rfl (.cons rfl (.nil _))))))) ⟨st, by simp only; omega, hk, by simp only [List.length_append, List.length_cons, List.length_nil]; omega, ?_⟩ (by simp only; omega)
     rw [← hmg, merge_item (I := I) (P := P) (i := i) (k := k) (by omega) (fun hk9 => by rw [hIe, hPe]; simp only; omega), hIe]
     simp
    ·refine X_skip (X_seq ?_)
     have hpair : 2 * k + 1 < q := by omega
     have hkP : k < P.length := by omega
     have hge := hp1 _ (List.getElem_mem hk1)
     have hge2 := hp1 _ (List.getElem_mem hk2)
     have hItem : isItem (P[k]'hkP) = false := by
      rw [hPe]
      unfold isItem
      rw [beq_eq_false_iff_ne]
      simp only [List.length_append]
      omega
     refine X_draw byKind (by kernel_rfl) (by kernel_rfl) ?_
     refine XV rfl rfl rfl (XV rfl rfl rfl (XV rfl rfl rfl ?_))
     refine XR_a (op_index (i := 2 * k) rfl rfl rfl (by omega)) rfl rfl ?_
     first | refine XR_a (op_field0 rfl rfl) rfl rfl ?_ | refine XR_a (op_fieldn rfl rfl) rfl rfl ?_
     refine XR_a (op_ld (hl1 st.low) rfl rfl rfl) rfl rfl ?_
     refine XV rfl rfl rfl (XV rfl rfl rfl ?_)
     first | refine XR_a (op_addN (n := 1) rfl rfl (by simp only [inK]; omega)) rfl rfl ?_ | refine XR_a (op_addI rfl rfl (by simp only [inK]; omega)) rfl rfl ?_ | refine XR_a (op_add rfl rfl) rfl rfl ?_
     refine XR_a (op_index (i := 2 * k + 1) rfl rfl rfl (by omega)) rfl rfl ?_
     first | refine XR_a (op_field0 rfl rfl) rfl rfl ?_ | refine XR_a (op_fieldn rfl rfl) rfl rfl ?_
     refine XR_a (op_ld (hl2 st.low) rfl rfl rfl) rfl rfl ?_
     first | refine XR_a (op_addN rfl rfl (by simp only [inK]; omega)) rfl rfl ?_ | refine XR_a (op_addI rfl rfl (by simp only [inK]; omega)) rfl rfl ?_ | refine XR_a (op_add rfl rfl) rfl rfl ?_
     refine XR_a (op_build (ps := [(0, nV (prev[2 * k].1 + prev[2 * k + 1].1))]) (cs := #[nV (prev[2 * k].1 + prev[2 * k + 1].1), .bool false]) rfl rfl) rfl rfl ?_
     refine XR_ga (opl_varA (us := [nV (prev[2 * k].1 + prev[2 * k + 1].1), .bool false]) rfl rfl rfl rfl (by kernel_rfl)) rfl rfl rfl (fun _ _ ⟨_, _, e, _⟩ => e) ?_
     rintro _ hp ⟨A9, rfl, hx9, hrd⟩
     replace st := st.ext hx9
     refine XR_wa (opl_append st 0 rfl (hrd) (rfl) (by intro u hu; simp only [List.mem_cons, List.not_mem_nil, or_false] at hu; rcases hu with rfl | rfl <;> rfl) (by rw [flat_length _ 2 (fun _ => rfl)]; simp; omega) rfl rfl rfl rfl rfl rfl rfl) rfl rfl rfl fun v hp st => ?_
     simp only [List.set_cons_zero, List.set_cons_succ] at st
     have e2 : out.flatMap eC ++ [nV (prev[2 * k].1 + prev[2 * k + 1].1), .bool false] = (out ++ [P[k]'hkP]).flatMap eC := by
      rw [List.flatMap_append]
      simp only [List.flatMap_cons, List.flatMap_nil, List.append_nil, eC, hItem]
      rw [hPe]
     rw [e2] at st
     refine XA rfl rfl rfl (XR_nil (X_reg (XV rfl rfl rfl ?_)))
     first | refine XR_a (op_addN (n := 2) rfl rfl (by simp only [inK]; omega)) rfl rfl ?_ | refine XR_a (op_addI rfl rfl (by simp only [inK]; omega)) rfl rfl ?_ | refine XR_a (op_add rfl rfl) rfl rfl ?_
     refine XA rfl rfl rfl (XR_nil (X_blk ?_))
     refine X_again (i, k + 1, v, out ++ [P[k]'hkP]) (.cons rfl (.cons rfl (.cons rfl (.cons rfl (.cons rfl (.cons rfl (.nil _))))))) ⟨st, hi, by simp only; omega, by simp only [List.length_append, List.length_cons, List.length_nil]; omega, ?_⟩ (by simp only; omega)
     simp only
     rw [← hmg, merge_pair (I := I) (i := i) hkP (fun hi9 => by rw [hIe, hPe]; simp only; omega)]
     simp
  ·refine XR_no rfl rfl (XR_no rfl rfl (XR_no rfl rfl (XR_no rfl rfl (XR_no rfl rfl (XR_no rfl rfl (XR_no rfl rfl (XR_no rfl rfl (XR_no rfl rfl (XR_no rfl rfl ?_)))))))))
   refine XR_no rfl rfl (XR_no rfl rfl (XR_no rfl rfl (XR_no rfl rfl (XR_no rfl rfl (XR_no rfl rfl (XR_no rfl rfl (XR_no rfl rfl (XR_no rfl rfl (XR_no rfl rfl ?_)))))))))
   refine XR_no rfl rfl (XR_no rfl rfl (XR_no rfl rfl (XR_no rfl rfl (XR_a (op_pick_f rfl rfl) rfl rfl (XR_nil (X_else rfl (X_skip (X_seq ?_))))))))
   have hpair : 2 * k + 1 < q := by omega
   obtain ⟨gC, oC, rfl, hcC⟩ := Rd.flat eC 2 hp (fun _ => rfl) (by omega) (by omega)
   have hk1 : 2 * k < prev.length := by omega
   have hk2 : 2 * k + 1 < prev.length := by omega
   have hl1 := fun {hp : Heap} (hx : Ext h0 hp) => cellH_ext (a := ⟨gC, oC + 2 * k * 2 + 0, none⟩) hx (hcC (2 * k) hk1 0 (nV prev[2 * k].1) rfl)
   have hl2 := fun {hp : Heap} (hx : Ext h0 hp) => cellH_ext (a := ⟨gC, oC + (2 * k + 1) * 2 + 0, none⟩) hx (hcC (2 * k + 1) hk2 0 (nV prev[2 * k + 1].1) rfl)
   have hw1 := hpw _ (List.getElem_mem hk1)
   have hw2 := hpw _ (List.getElem_mem hk2)
   have hPe := hPi k (by omega) hk2
   have hkP : k < P.length := by omega
   have hge := hp1 _ (List.getElem_mem hk1)
   have hge2 := hp1 _ (List.getElem_mem hk2)
   have hItem : isItem (P[k]'hkP) = false := by
    rw [hPe]
    unfold isItem
    rw [beq_eq_false_iff_ne]
    simp only [List.length_append]
    omega
   refine X_draw byKind (by kernel_rfl) (by kernel_rfl) ?_
   refine XV rfl rfl rfl (XV rfl rfl rfl (XV rfl rfl rfl ?_))
   refine XR_a (op_index (i := 2 * k) rfl rfl rfl (by omega)) rfl rfl ?_
   first | refine XR_a (op_field0 rfl rfl) rfl rfl ?_ | refine XR_a (op_fieldn rfl rfl) rfl rfl ?_
   refine XR_a (op_ld (hl1 st.low) rfl rfl rfl) rfl rfl ?_
   refine XV rfl rfl rfl (XV rfl rfl rfl ?_)
   first | refine XR_a (op_addN (n := 1) rfl rfl (by simp only [inK]; omega)) rfl rfl ?_ | refine XR_a (op_addI rfl rfl (by simp only [inK]; omega)) rfl rfl ?_ | refine XR_a (op_add rfl rfl) rfl rfl ?_
   refine XR_a (op_index (i := 2 * k + 1) rfl rfl rfl (by omega)) rfl rfl ?_
   first | refine XR_a (op_field0 rfl rfl) rfl rfl ?_ | refine XR_a (op_fieldn rfl rfl) rfl rfl ?_
   refine XR_a (op_ld (hl2 st.low) rfl rfl rfl) rfl rfl ?_
   first | refine XR_a (op_addN rfl rfl (by simp only [inK]; omega)) rfl rfl ?_ | refine XR_a (op_addI rfl rfl (by simp only [inK]; omega)) rfl rfl ?_ | refine XR_a (op_add rfl rfl) rfl rfl ?_
   refine XR_a (op_build (ps := [(0, nV (prev[2 * k].1 + prev[2 * k + 1].1))]) (cs := #[nV (prev[2 * k].1 + prev[2 * k + 1].1), .bool false]) rfl rfl) rfl rfl ?_
   refine XR_ga (opl_varA (us := [nV (prev[2 * k].1 + prev[2 * k + 1].1), .bool false]) rfl rfl rfl rfl (by kernel_rfl)) rfl rfl rfl (fun _ _ ⟨_, _, e, _⟩ => e) ?_
   rintro _ hp ⟨A9, rfl, hx9, hrd⟩
   replace st := st.ext hx9
   refine XR_wa (opl_append st 0 rfl (hrd) (rfl) (by intro u hu; simp only [List.mem_cons, List.not_mem_nil, or_false] at hu; rcases hu with rfl | rfl <;> rfl) (by rw [flat_length _ 2 (fun _ => rfl)]; simp; omega) rfl rfl rfl rfl rfl rfl rfl) rfl rfl rfl fun v hp st => ?_
   simp only [List.set_cons_zero, List.set_cons_succ] at st
   have e2 : out.flatMap eC ++ [nV (prev[2 * k].1 + prev[2 * k + 1].1), .bool false] = (out ++ [P[k]'hkP]).flatMap eC := by
    rw [List.flatMap_append]
    simp only [List.flatMap_cons, List.flatMap_nil, List.append_nil, eC, hItem]
    rw [hPe]
   rw [e2] at st
   refine XA rfl rfl rfl (XR_nil (X_reg (XV rfl rfl rfl ?_)))
   first | refine XR_a (op_addN (n := 2) rfl rfl (by simp only [inK]; omega)) rfl rfl ?_ | refine XR_a (op_addI rfl rfl (by simp only [inK]; omega)) rfl rfl ?_ | refine XR_a (op_add rfl rfl) rfl rfl ?_
   refine XA rfl rfl rfl (XR_nil (X_blk ?_))
   refine X_again (i, k + 1, v, out ++ [P[k]'hkP]) (.cons rfl (.cons rfl (.cons rfl (.cons rfl (.cons rfl (.cons rfl (.nil _))))))) ⟨st, hi, by simp only; omega, by simp only [List.length_append, List.length_cons, List.length_nil]; omega, ?_⟩ (by simp only; omega)
   simp only
   rw [← hmg, merge_pair (I := I) (i := i) hkP (fun hi9 => by omega)]
   simp
 ·have h15 := h
  refine XV rfl rfl rfl ?_
  first | refine XR_a (op_addN (n := 1) rfl rfl (by simp only [inK]; omega)) rfl rfl ?_ | refine XR_a (op_addI rfl rfl (by simp only [inK]; omega)) rfl rfl ?_ | refine XR_a (op_add rfl rfl) rfl rfl ?_
  refine XV rfl rfl rfl ?_
  refine XR_a (op_len rfl rfl rfl) rfl rfl ?_
  refine XR_a (op_lss rfl rfl) rfl rfl ?_
  refine XR_a (op_pick_f rfl rfl) rfl rfl (XR_nil ?_)
  refine X_if rfl (fun h => ?_) (fun h => ?_)
  ·have h1 := h
   refine X_skip (X_block (X_seq (X_reg (XV rfl rfl rfl ?_))))
   first | refine XR_a (op_addN (n := 1) rfl rfl (by simp only [inK]; omega)) rfl rfl ?_ | refine XR_a (op_addI rfl rfl (by simp only [inK]; omega)) rfl rfl ?_ | refine XR_a (op_add rfl rfl) rfl rfl ?_
   refine XV rfl rfl rfl ?_
   refine XR_a (op_len rfl rfl rfl) rfl rfl ?_
   refine XR_a (op_lss rfl rfl) rfl rfl ?_
   refine XA rfl rfl rfl (XR_nil (X_seq (X_seq ?_)))
   have hx := st.low
   refine X_draw byKind (by kernel_rfl) (by kernel_rfl) ?_
   refine XV rfl rfl rfl (XV rfl rfl rfl ?_)
   refine XR_a (op_len rfl rfl rfl) rfl rfl ?_
   refine XR_a (op_lss rfl rfl) rfl rfl ?_
   refine XV rfl rfl rfl ?_
   refine XR_if 31 rfl (fun h => ?_) (fun h => ?_)
   ·have h31 := h
    obtain ⟨gB, oB, rfl, hcB⟩ := hs.at_ (by rw [List.length_map]; omega)
    have him : i < sy.length := by omega
    have hsn := hsy _ (List.getElem_mem him)
    obtain ⟨gA, oA, rfl, hcA⟩ := hr.at_ (by rw [List.length_map]; omega)
    have hIe := hIi i (by omega)
    have hlB := fun {hp : Heap} (hx : Ext h0 hp) => cellH_ext (a := ⟨gB, oB + i, none⟩) hx (hcB i (nV sy[i]) (by simp [him]))
    have hlA := fun {hp : Heap} (hx : Ext h0 hp) => cellH_ext (a := ⟨gA, oA + sy[i], none⟩) hx (hcA sy[i] (nV (wkey ws sy[i])) (by unfold wkey; simp [List.getD, hl, hsn]))
    obtain ⟨s, hse⟩ : ∃ s, sy[i] = s := ⟨_, rfl⟩
    rw [hse] at hsn hlA hlB hIe
    obtain ⟨w, hwe⟩ : ∃ w, wkey ws s = w := ⟨_, rfl⟩
    rw [hwe] at hlA hIe
    refine XV rfl rfl rfl ?_
    first | refine XR_a (op_notd rfl) rfl rfl ?_ | refine XR_a (op_not rfl) rfl rfl ?_
    refine XV rfl rfl rfl ?_
    refine XR_if 34 rfl (fun h => ?_) (fun h => ?_)
    ·refine XR_no rfl rfl (XR_no rfl rfl (XR_no rfl rfl (XR_no rfl rfl (XR_no rfl rfl (XR_no rfl rfl (XR_no rfl rfl (XR_no rfl rfl (XR_no rfl rfl (XR_no rfl rfl ?_)))))))))
     refine XR_no rfl rfl (XR_no rfl rfl (XR_no rfl rfl (XR_no rfl rfl (XR_no rfl rfl (XR_no rfl rfl (XR_no rfl rfl (XR_no rfl rfl (XR_no rfl rfl (XR_no rfl rfl ?_)))))))))
     refine XR_a (op_pick_t rfl rfl) rfl rfl (XR_a (op_pick_t rfl rfl) rfl rfl (XR_nil (X_then rfl (X_seq (X_reg (XV rfl rfl rfl (XV rfl rfl rfl (XV rfl rfl rfl (XV rfl rfl rfl ?_)))))))))
     first | refine XR_a (op_index1 rfl rfl rfl (by omega)) rfl rfl ?_ | refine XR_a (op_index rfl rfl rfl (by omega)) rfl rfl ?_
     refine XR_a (op_ld (hlB st.low) rfl rfl rfl) rfl rfl ?_
     first | refine XR_a (op_index1 rfl rfl rfl (by omega)) rfl rfl ?_ | refine XR_a (op_index rfl rfl rfl (by omega)) rfl rfl ?_
     refine XR_a (op_ld (hlA st.low) rfl rfl rfl) rfl rfl ?_
     refine XR_a (op_build (ps := [(0, nV w), (1, .bool true)]) (cs := #[nV w, .bool true]) rfl rfl) rfl rfl ?_
     refine XR_wa (opl_varA (us := [nV w, .bool true]) rfl rfl rfl rfl (by kernel_rfl)) rfl rfl rfl ?_
     rintro _ hp ⟨A9, rfl, hx9, hrd⟩
     replace st := st.ext hx9
     refine XR_wa (opl_append st 0 rfl (hrd) (rfl) (one_eC (w, [i])) (by rw [flat_length _ 2 (fun _ => rfl)]; simp; omega) rfl rfl rfl rfl rfl rfl rfl) rfl rfl rfl fun v hp st => ?_
     simp only [List.set_cons_zero, List.set_cons_succ] at st
     have e2 : out.flatMap eC ++ [nV w, .bool true] = (out ++ [(w, [i])]).flatMap eC := by rw [List.flatMap_append]; rfl
     rw [e2] at st
     refine XA rfl rfl rfl (XR_nil (X_seq (X_reg (XV rfl rfl rfl ?_))))
     first | refine XR_a (op_addN (n := 1) rfl rfl (by simp only [inK]; omega)) rfl rfl ?_ | refine XR_a (op_addI rfl rfl (by simp only [inK]; omega)) rfl rfl ?_ | refine XR_a (op_add rfl rfl) rfl rfl ?_
     refine XA rfl rfl rfl (XR_nil (X_exit rfl ?_))
     refine X_again (i + 1, k, v, out ++ [(w, [i])]) (.cons rfl (.cons rfl (.cons rfl (.cons rfl (.cons rfl (.cons rfl (.nil _))))))) ⟨st, by simp only; omega, hk, by simp only [List.length_append, List.length_cons, List.length_nil]; omega, ?_⟩ (by simp only; omega)
     rw [← hmg, merge_item (I := I) (P := P) (i := i) (k := k) (by omega) (fun hk9 => by omega), hIe]
     simp
    ·obtain ⟨gC, oC, rfl, hcC⟩ := Rd.flat eC 2 hp (fun _ => rfl) (by omega) (by omega)
     have hk1 : 2 * k < prev.length := by omega
     have hk2 : 2 * k + 1 < prev.length := by omega
     have hl1 := fun {hp : Heap} (hx : Ext h0 hp) => cellH_ext (a := ⟨gC, oC + 2 * k * 2 + 0, none⟩) hx (hcC (2 * k) hk1 0 (nV prev[2 * k].1) rfl)
     have hl2 := fun {hp : Heap} (hx : Ext h0 hp) => cellH_ext (a := ⟨gC, oC + (2 * k + 1) * 2 + 0, none⟩) hx (hcC (2 * k + 1) hk2 0 (nV prev[2 * k + 1].1) rfl)
     have hw1 := hpw _ (List.getElem_mem hk1)
     have hw2 := hpw _ (List.getElem_mem hk2)
     have hPe := hPi k (by omega) hk2
     refine XV rfl rfl rfl (XV rfl rfl rfl (XV rfl rfl rfl ?_))
     first | refine XR_a (op_index1 rfl rfl rfl (by omega)) rfl rfl ?_ | refine XR_a (op_index rfl rfl rfl (by omega)) rfl rfl ?_
     refine XR_a (op_ld (hlB st.low) rfl rfl rfl) rfl rfl ?_
     first | refine XR_a (op_index1 rfl rfl rfl (by omega)) rfl rfl ?_ | refine XR_a (op_index rfl rfl rfl (by omega)) rfl rfl ?_
     refine XR_a (op_ld (hlA st.low) rfl rfl rfl) rfl rfl ?_
     refine XV rfl rfl rfl (XV rfl rfl rfl ?_)
     refine XR_a (op_index (i := 2 * k) rfl rfl rfl (by omega)) rfl rfl ?_
     first | refine XR_a (op_field0 rfl rfl) rfl rfl ?_ | refine XR_a (op_fieldn rfl rfl) rfl rfl ?_
     refine XR_a (op_ld (hl1 st.low) rfl rfl rfl) rfl rfl ?_
     refine XV rfl rfl rfl (XV rfl rfl rfl ?_)
     first | refine XR_a (op_addN (n := 1) rfl rfl (by simp only [inK]; omega)) rfl rfl ?_ | refine XR_a (op_addI rfl rfl (by simp only [inK]; omega)) rfl rfl ?_ | refine XR_a (op_add rfl rfl) rfl rfl ?_
     refine XR_a (op_index (i := 2 * k + 1) rfl rfl rfl (by omega)) rfl rfl ?_
     first | refine XR_a (op_field0 rfl rfl) rfl rfl ?_ | refine XR_a (op_fieldn rfl rfl) rfl rfl ?_
     refine XR_a (op_ld (hl2 st.low) rfl rfl rfl) rfl rfl ?_
     first | refine XR_a (op_addN rfl rfl (by simp only [inK]; omega)) rfl rfl ?_ | refine XR_a (op_addI rfl rfl (by simp only [inK]; omega)) rfl rfl ?_ | refine XR_a (op_add rfl rfl) rfl rfl ?_
     refine XR_a (op_leq rfl rfl) rfl rfl ?_
     refine XR_a (op_pick_f rfl rfl) rfl rfl (XR_a (op_pick_t rfl rfl) rfl rfl (XR_nil ?_))
     refine X_if rfl (fun h => ?_) (fun h => ?_)
     ·refine X_seq (X_reg (XV rfl rfl rfl (XV rfl rfl rfl (XV rfl rfl rfl (XV rfl rfl rfl ?_)))))
      first | refine XR_a (op_index1 rfl rfl rfl (by omega)) rfl rfl ?_ | refine XR_a (op_index rfl rfl rfl (by omega)) rfl rfl ?_
      refine XR_a (op_ld (hlB st.low) rfl rfl rfl) rfl rfl ?_
      first | refine XR_a (op_index1 rfl rfl rfl (by omega)) rfl rfl ?_ | refine XR_a (op_index rfl rfl rfl (by omega)) rfl rfl ?_
      refine XR_a (op_ld (hlA st.low) rfl rfl rfl) rfl rfl ?_
      refine XR_a (op_build (ps := [(0, nV w), (1, .bool true)]) (cs := #[nV w, .bool true]) rfl rfl) rfl rfl ?_
      refine XR_wa (opl_varA (us := [nV w, .bool true]) rfl rfl rfl rfl (by kernel_rfl)) rfl rfl rfl ?_
      rintro _ hp ⟨A9, rfl, hx9, hrd⟩
      replace st := st.ext hx9
      refine XR_wa (opl_append st 0 rfl (hrd) (rfl) (one_eC (w, [i])) (by rw [flat_length _ 2 (fun _ => rfl)]; simp; omega) rfl rfl rfl rfl rfl rfl rfl) rfl rfl rfl fun v hp st => ?_
      simp only [List.set_cons_zero, List.set_cons_succ] at st
      have e2 : out.flatMap eC ++ [nV w, .bool true] = (out ++ [(w, [i])]).flatMap eC := by rw [List.flatMap_append]; rfl
      rw [e2] at st
      refine XA rfl rfl rfl (XR_nil (X_seq (X_reg (XV rfl rfl rfl ?_))))
      first | refine XR_a (op_addN (n := 1) rfl rfl (by simp only [inK]; omega)) rfl rfl ?_ | refine XR_a (op_addI rfl rfl (by simp only [inK]; omega)) rfl rfl ?_ | refine XR_a (op_add rfl rfl) rfl rfl ?_
      refine XA rfl rfl rfl (XR_nil (X_exit rfl ?_))
      refine X_again (i + 1, k, v, out ++ [(w, [i])]) (.cons rfl (.cons rfl (.cons rfl (.cons rfl (.cons rfl (.cons rfl (.nil _))))))) ⟨st, by simp only; omega, hk, by simp only [List.length_append, List.length_cons, List.length_nil]; omega, ?_⟩ (by simp only; omega)
      rw [← hmg, merge_item (I := I) (P := P) (i := i) (k := k) (by omega) (fun hk9 => by rw [hIe, hPe]; simp only; omega), hIe]
      simp
     ·refine X_skip (X_seq ?_)
      have hpair : 2 * k + 1 < q := by omega
      have hkP : k < P.length := by omega
      have hge := hp1 _ (List.getElem_mem hk1)
      have hge2 := hp1 _ (List.getElem_mem hk2)
      have hItem : isItem (P[k]'hkP) = false := by
       rw [hPe]
       unfold isItem
       rw [beq_eq_false_iff_ne]
       simp only [List.length_append]
       omega
      refine X_draw byKind (by kernel_rfl) (by kernel_rfl) ?_
      refine XV rfl rfl rfl (XV rfl rfl rfl (XV rfl rfl rfl ?_))
      refine XR_a (op_index (i := 2 * k) rfl rfl rfl (by omega)) rfl rfl ?_
      first | refine XR_a (op_field0 rfl rfl) rfl rfl ?_ | refine XR_a (op_fieldn rfl rfl) rfl rfl ?_
      refine XR_a (op_ld (hl1 st.low) rfl rfl rfl) rfl rfl ?_
      refine XV rfl rfl rfl (XV rfl rfl rfl ?_)
      first | refine XR_a (op_addN (n := 1) rfl rfl (by simp only [inK]; omega)) rfl rfl ?_ | refine XR_a (op_addI rfl rfl (by simp only [inK]; omega)) rfl rfl ?_ | refine XR_a (op_add rfl rfl) rfl rfl ?_
      refine XR_a (op_index (i := 2 * k + 1) rfl rfl rfl (by omega)) rfl rfl ?_
      first | refine XR_a (op_field0 rfl rfl) rfl rfl ?_ | refine XR_a (op_fieldn rfl rfl) rfl rfl ?_
      refine XR_a (op_ld (hl2 st.low) rfl rfl rfl) rfl rfl ?_
      first | refine XR_a (op_addN rfl rfl (by simp only [inK]; omega)) rfl rfl ?_ | refine XR_a (op_addI rfl rfl (by simp only [inK]; omega)) rfl rfl ?_ | refine XR_a (op_add rfl rfl) rfl rfl ?_
      refine XR_a (op_build (ps := [(0, nV (prev[2 * k].1 + prev[2 * k + 1].1))]) (cs := #[nV (prev[2 * k].1 + prev[2 * k + 1].1), .bool false]) rfl rfl) rfl rfl ?_
      refine XR_ga (opl_varA (us := [nV (prev[2 * k].1 + prev[2 * k + 1].1), .bool false]) rfl rfl rfl rfl (by kernel_rfl)) rfl rfl rfl (fun _ _ ⟨_, _, e, _⟩ => e) ?_
      rintro _ hp ⟨A9, rfl, hx9, hrd⟩
      replace st := st.ext hx9
      refine XR_wa (opl_append st 0 rfl (hrd) (rfl) (by intro u hu; simp only [List.mem_cons, List.not_mem_nil, or_false] at hu; rcases hu with rfl | rfl <;> rfl) (by rw [flat_length _ 2 (fun _ => rfl)]; simp; omega) rfl rfl rfl rfl rfl rfl rfl) rfl rfl rfl fun v hp st => ?_
      simp only [List.set_cons_zero, List.set_cons_succ] at st
      have e2 : out.flatMap eC ++ [nV (prev[2 * k].1 + prev[2 * k + 1].1), .bool false] = (out ++ [P[k]'hkP]).flatMap eC := by
       rw [List.flatMap_append]
       simp only [List.flatMap_cons, List.flatMap_nil, List.append_nil, eC, hItem]
       rw [hPe]
      rw [e2] at st
      refine XA rfl rfl rfl (XR_nil (X_reg (XV rfl rfl rfl ?_)))
      first | refine XR_a (op_addN (n := 2) rfl rfl (by simp only [inK]; omega)) rfl rfl ?_ | refine XR_a (op_addI rfl rfl (by simp only [inK]; omega)) rfl rfl ?_ | refine XR_a (op_add rfl rfl) rfl rfl ?_
      refine XA rfl rfl rfl (XR_nil (X_blk ?_))
      refine X_again (i, k + 1, v, out ++ [P[k]'hkP]) (.cons rfl (.cons rfl (.cons rfl (.cons rfl (.cons rfl (.cons rfl (.nil _))))))) ⟨st, hi, by simp only; omega, by simp only [List.length_append, List.length_cons, List.length_nil]; omega, ?_⟩ (by simp only; omega)
      simp only
      rw [← hmg, merge_pair (I := I) (i := i) hkP (fun hi9 => by rw [hIe, hPe]; simp only; omega)]
      simp
   ·refine XR_no rfl rfl (XR_no rfl rfl (XR_no rfl rfl (XR_no rfl rfl (XR_no rfl rfl (XR_no rfl rfl (XR_no rfl rfl (XR_no rfl rfl (XR_no rfl rfl (XR_no rfl rfl ?_)))))))))
    refine XR_no rfl rfl (XR_no rfl rfl (XR_no rfl rfl (XR_no rfl rfl (XR_no rfl rfl (XR_no rfl rfl (XR_no rfl rfl (XR_no rfl rfl (XR_no rfl rfl (XR_no rfl rfl ?_)))))))))
    refine XR_no rfl rfl (XR_no rfl rfl (XR_no rfl rfl (XR_no rfl rfl (XR_a (op_pick_f rfl rfl) rfl rfl (XR_nil (X_else rfl (X_skip (X_seq ?_))))))))
    have hpair : 2 * k + 1 < q := by omega
    obtain ⟨gC, oC, rfl, hcC⟩ := Rd.flat eC 2 hp (fun _ => rfl) (by omega) (by omega)
    have hk1 : 2 * k < prev.length := by omega
    have hk2 : 2 * k + 1 < prev.length := by omega
    have hl1 := fun {hp : Heap} (hx : Ext h0 hp) => cellH_ext (a := ⟨gC, oC + 2 * k * 2 + 0, none⟩) hx (hcC (2 * k) hk1 0 (nV prev[2 * k].1) rfl)
    have hl2 := fun {hp : Heap} (hx : Ext h0 hp) => cellH_ext (a := ⟨gC, oC + (2 * k + 1) * 2 + 0, none⟩) hx (hcC (2 * k + 1) hk2 0 (nV prev[2 * k + 1].1) rfl)
    have hw1 := hpw _ (List.getElem_mem hk1)
    have hw2 := hpw _ (List.getElem_mem hk2)
    have hPe := hPi k (by omega) hk2
    have hkP : k < P.length := by omega
    have hge := hp1 _ (List.getElem_mem hk1)
    have hge2 := hp1 _ (List.getElem_mem hk2)
    have hItem : isItem (P[k]'hkP) = false := by
     rw [hPe]
     unfold isItem
     rw [beq_eq_false_iff_ne]
     simp only [List.length_append]
     omega
    refine X_draw byKind (by kernel_rfl) (by kernel_rfl) ?_
    refine XV rfl rfl rfl (XV rfl rfl rfl (XV rfl rfl rfl ?_))
    refine XR_a (op_index (i := 2 * k) rfl rfl rfl (by omega)) rfl rfl ?_
    first | refine XR_a (op_field0 rfl rfl) rfl rfl ?_ | refine XR_a (op_fieldn rfl rfl) rfl rfl ?_
    refine XR_a (op_ld (hl1 st.low) rfl rfl rfl) rfl rfl ?_
    refine XV rfl rfl rfl (XV rfl rfl rfl ?_)
    first | refine XR_a (op_addN (n := 1) rfl rfl (by simp only [inK]; omega)) rfl rfl ?_ | refine XR_a (op_addI rfl rfl (by simp only [inK]; omega)) rfl rfl ?_ | refine XR_a (op_add rfl rfl) rfl rfl ?_
    refine XR_a (op_index (i := 2 * k + 1) rfl rfl rfl (by omega)) rfl rfl ?_
    first | refine XR_a (op_field0 rfl rfl) rfl rfl ?_ | refine XR_a (op_fieldn rfl rfl) rfl rfl ?_
    refine XR_a (op_ld (hl2 st.low) rfl rfl rfl) rfl rfl ?_
    first | refine XR_a (op_addN rfl rfl (by simp only [inK]; omega)) rfl rfl ?_ | refine XR_a (op_addI rfl rfl (by simp only [inK]; omega)) rfl rfl ?_ | refine XR_a (op_add rfl rfl) rfl rfl ?_
    refine XR_a (op_build (ps := [(0, nV (prev[2 * k].1 + prev[2 * k + 1].1))]) (cs := #[nV (prev[2 * k].1 + prev[2 * k + 1].1), .bool false]) rfl rfl) rfl rfl ?_
    refine XR_ga (opl_varA (us := [nV (prev[2 * k].1 + prev[2 * k + 1].1), .bool false]) rfl rfl rfl rfl (by kernel_rfl)) rfl rfl rfl (fun _ _ ⟨_, _, e, _⟩ => e) ?_
    rintro _ hp ⟨A9, rfl, hx9, hrd⟩
    replace st := st.ext hx9
    refine XR_wa (opl_append st 0 rfl (hrd) (rfl) (by intro u hu; simp only [List.mem_cons, List.not_mem_nil, or_false] at hu; rcases hu with rfl | rfl <;> rfl) (by rw [flat_length _ 2 (fun _ => rfl)]; simp; omega) rfl rfl rfl rfl rfl rfl rfl) rfl rfl rfl fun v hp st => ?_
    simp only [List.set_cons_zero, List.set_cons_succ] at st
    have e2 : out.flatMap eC ++ [nV (prev[2 * k].1 + prev[2 * k + 1].1), .bool false] = (out ++ [P[k]'hkP]).flatMap eC := by
     rw [List.flatMap_append]
     simp only [List.flatMap_cons, List.flatMap_nil, List.append_nil, eC, hItem]
     rw [hPe]
    rw [e2] at st
    refine XA rfl rfl rfl (XR_nil (X_reg (XV rfl rfl rfl ?_)))
    first | refine XR_a (op_addN (n := 2) rfl rfl (by simp only [inK]; omega)) rfl rfl ?_ | refine XR_a (op_addI rfl rfl (by simp only [inK]; omega)) rfl rfl ?_ | refine XR_a (op_add rfl rfl) rfl rfl ?_
    refine XA rfl rfl rfl (XR_nil (X_blk ?_))
    refine X_again (i, k + 1, v, out ++ [P[k]'hkP]) (.cons rfl (.cons rfl (.cons rfl (.cons rfl (.cons rfl (.cons rfl (.nil _))))))) ⟨st, hi, by simp only; omega, by simp only [List.length_append, List.length_cons, List.length_nil]; omega, ?_⟩ (by simp only; omega)
    simp only
    rw [← hmg, merge_pair (I := I) (i := i) hkP (fun hi9 => by omega)]
    simp
  ·refine X_exit rfl (X_seq (X_reg (XV rfl rfl rfl (XA rfl rfl rfl (XR_nil ?_)))))
   refine X_ret (.cons (.tmp rfl) .nil) ?_
   rw [List.drop_of_length_le (by omega), List.drop_of_length_le (by omega), List.merge_right, List.append_nil] at hmg
   rw [← hmg]
   exact st
end Go.Bn
end

section
set_option linter.unusedVariables false
set_option linter.unusedSimpArgs false
set_option maxHeartbeats 4000000
set_option maxRecDepth 20000
namespace Go.Bn
open Go Proofs
def rowsR (e sz : Nat) : List (Value × List Value) → Res
  | [] => emp
  | x :: L => starR (Bn.row e sz x.1 x.2) (rowsR e sz L)
theorem rowsR_at {e sz : Nat} {x : Value × List Value} {h : Heap} : ∀ {L : List (Value × List Value)} {S : Nat → Prop}, (rowsR e sz L).P h S → x ∈ L → ∃ A n c, x.1 = .slice A n c ∧ x.2.length = n * sz ∧ n ≤ c ∧ c ≤ maxLen ∧ Rd h A x.2
 | y :: L, S, hp, hx => by
  obtain ⟨S1, S2, h1, h2, _⟩ := hp
  rcases List.mem_cons.1 hx with rfl | hx
  ·exact RowAt.rd h1
  ·exact rowsR_at h2 hx
theorem St.rowsAt {B e sz : Nat} {h0 hp : Heap} {rs : List Res} (s : St B h0 hp rs) (j : Nat) {L : List (Value × List Value)} {x : Value × List Value} (hj : rs[j]? = some (rowsR e sz L)) (hx : x ∈ L) :
  ∃ A n c, x.1 = .slice A n c ∧ x.2.length = n * sz ∧ n ≤ c ∧ c ≤ maxLen ∧ Rd hp A x.2 := by
 obtain ⟨S, h, _⟩ := s.at_ hj
 exact rowsR_at h hx
theorem rows_spec {n c m d : Nat} {A B : Option Addr} {h0 : Heap} : Ret Try.prog 83 [.slice A n c, .slice B m d] h0 fun v h' => ∃ p q, v = .func (.func 110) #[] #[.pointer (some ⟨p, 0, none⟩), .pointer (some ⟨q, 0, none⟩)] ∧ St h0.size h0 h' [pt q 72 [.slice B m d], pt p 72 [.slice A n c]] := by
 refine ret_of_X Try.func83 rfl rfl fun w0 hw0 => ?_
 simp only [argE, Nat.zero_add, Nat.reduceAdd]
 have st := St.start h0
 refine X_seq (X_reg ?_)
 refine XR_wa (opl_bx rfl rfl) rfl rfl rfl ?_
 rintro _ hp ⟨p, rfl, hnew⟩
 replace st := st.new hnew
 refine XR_wa (opl_bx rfl rfl) rfl rfl rfl ?_
 rintro _ hp ⟨q, rfl, hnew⟩
 replace st := st.new hnew
 refine XA rfl rfl rfl (XR_nil (X_seq (X_reg ?_)))
 refine XR_a (op_mkFunc rfl) rfl rfl ?_
 refine XA rfl rfl rfl (XR_nil ?_)
 refine X_ret (.cons (.tmp rfl) .nil) ?_
 exact ⟨_, _, rfl, st⟩
theorem rows_iter {B y p q n c m d : Nat} {A A2 : Option Addr} {ws sy : List Nat} {F : List Res} {h0 : Heap} (JR : List Value → List Res)
  (st0 : St B h0 h0 (pt q 72 [.slice A2 m d] :: pt p 72 [.slice A n c] :: Bn.row 3 1 (.slice A2 m d) (sy.map nV) :: (JR [] ++ F)))
  (hr : ∀ h', Low B h0 h' → Rd h' A (ws.map nV)) (hl : ws.length = n) (hsy : ∀ s ∈ sy, s < n) (hm : sy.length ≤ 65536) (hw : ∀ s ∈ sy, wkey ws s ≤ 1073741824)
  (hround : ∀ (s : List Value) (v : Value) (F' : List Res) (h : Heap), Low B h0 h → s.length ≤ 14 → Value.one v = true → St B h h (JR s ++ F') → RRet Try.prog y [v] h fun u h' => u = .bool true ∧ St B h h' (JR (s ++ [v]) ++ F')) :
  Ret Try.prog 110 [.func (.yield y) #[] #[], .pointer (some ⟨p, 0, none⟩), .pointer (some ⟨q, 0, none⟩)] h0 fun _ h' => ∃ (vs : List Value) (L : List (Value × List Value)), vs.length = 15 ∧ (∀ j, j < 15 → (vs.getD j (.slice none 0 0), (rowE (sy.map (wkey ws)) (j + 1)).flatMap eC) ∈ L) ∧
   St B h0 h' (JR vs ++ (rowsR 162 2 L :: Bn.row 3 1 (.slice A2 m d) (sy.map nV) :: F)) := by
 have hml : sy.length = m := by
  obtain ⟨_, _, _, he, hl2, _⟩ := st0.row 2 rfl
  cases he; simpa using hl2
 have hbd : ∀ j, j ≤ 15 → ∀ e ∈ rowE (sy.map (wkey ws)) j, e.1 ≤ 1073741824 * 2 ^ j := by
  intro j
  induction j with
  | zero => intro _ e he; simp [rowE] at he
  | succ j ih =>
   intro hj e he
   rw [rowE, List.mem_merge] at he
   have hp : 2 ^ (j + 1) = 2 * 2 ^ j := by rw [Nat.pow_succ, Nat.mul_comm]
   have hp1 : 0 < 2 ^ j := Nat.pow_pos (by omega)
   rcases he with he | he
   ·simp only [itemsE, List.mem_map, List.mem_range] at he
    obtain ⟨i, hi, rfl⟩ := he
    have hi' : i < sy.length := by simpa using hi
    have := hw _ (List.getElem_mem hi')
    have e : (sy.map (wkey ws)).getD i 0 = wkey ws sy[i] := by simp [List.getD, hi']
    simp only [e]
    have : 1073741824 * 1 ≤ 1073741824 * 2 ^ (j + 1) := Nat.mul_le_mul_left _ (by omega)
    omega
   ·obtain ⟨u, v, hu, hv, rfl⟩ := pairsE_mem he
    have h1 := ih (by omega) u hu
    have h2 := ih (by omega) v hv
    simp only
    rw [hp, Nat.mul_left_comm]; omega
 refine ret_of_X Try.func110 rfl rfl fun w0 hw0 => ?_
 simp only [argE, Nat.zero_add, Nat.reduceAdd]
 refine X_seq (X_reg (XA rfl rfl rfl (XR_nil (X_seq (X_reg (XV rfl rfl rfl (XR_nil (X_block ?_))))))))
 refine X_loop (fun s => 15 - s.1) (fun s => [(0, .func (.yield y) #[] #[]), (1, .pointer (some ⟨p, 0, none⟩)), (2, .pointer (some ⟨q, 0, none⟩)), (4, s.2.1), (5, nV s.1)])
  (fun (s : Nat × Value × List Value × List (Value × List Value)) hp => s.1 ≤ 15 ∧ s.2.2.1.length = s.1 ∧ (∀ j, j < s.1 → (s.2.2.1.getD j (.slice none 0 0), (rowE (sy.map (wkey ws)) (j + 1)).flatMap eC) ∈ s.2.2.2) ∧ ((s.1 = 0 ∧ s.2.1 = .slice none 0 0) ∨ (s.2.1, (rowE (sy.map (wkey ws)) s.1).flatMap eC) ∈ s.2.2.2) ∧
   St B h0 hp (rowsR 162 2 s.2.2.2 :: pt q 72 [.slice A2 m d] :: pt p 72 [.slice A n c] :: Bn.row 3 1 (.slice A2 m d) (sy.map nV) :: (JR s.2.2.1 ++ F)))
  (0, .slice none 0 0, [], []) (.cons rfl (.cons rfl (.cons rfl (.cons rfl (.cons rfl (.nil _)))))) ⟨by simp only; omega, rfl, fun j h => by simp only at h; omega, .inl ⟨rfl, rfl⟩, St.emp.2 st0⟩ ?_
 rintro ⟨j, v, vs, L⟩ hp ⟨hj, hvs, hL, hv, st⟩
 simp only at hj hvs hL hv st ⊢
 refine X_seq (X_reg ?_)
 refine XR_a (op_lss rfl rfl) rfl rfl ?_
 refine XR_nil (X_seq ?_)
 refine X_if rfl (fun h => ?_) (fun h => ?_)
 ·obtain ⟨A5, n5, c5, rfl, hn5, hr5⟩ : ∃ A5 n5 c5, v = .slice A5 n5 c5 ∧ (rowE (sy.map (wkey ws)) j).length = n5 ∧ Rd hp A5 ((rowE (sy.map (wkey ws)) j).flatMap eC) := by
   rcases hv with ⟨rfl, rfl⟩ | hv
   ·exact ⟨_, _, _, rfl, rfl, Rd.nil _ _⟩
   ·obtain ⟨A5, n5, c5, e1, e2, _, _, e3⟩ := st.rowsAt 0 rfl hv
    rw [flat_length _ 2 (fun _ => rfl)] at e2
    exact ⟨A5, n5, c5, e1, by omega, e3⟩
  have hrs := (st.rdS 3 rfl).2
  have hb5 := rowE_bd (sy.map (wkey ws)) j
  rw [List.length_map] at hb5
  have hp15 : 2 ^ j ≤ 32768 := Nat.le_trans (Nat.pow_le_pow_right (n := 2) (by omega) (show j ≤ 15 by omega)) (by decide)
  refine X_skip (X_seq (X_block (X_seq (X_reg ?_))))
  refine XR_a (op_ld (st.cell 2 (i := 0) rfl rfl) rfl rfl rfl) rfl rfl ?_
  refine XR_a (op_ld (st.cell 1 (i := 0) rfl rfl) rfl rfl rfl) rfl rfl ?_
  refine XV rfl rfl rfl ?_
  refine XR_wa (opl_call (next_spec (hr hp st.low) hl hrs hml hr5 hn5 hsy (by omega) (by omega) (fun e he => by have h1 := hbd j hj e he; have h2 : 1073741824 * 2 ^ j ≤ 1073741824 * 32768 := Nat.mul_le_mul_left _ hp15; omega) (rowE_has j)) rfl (by kernel_rfl)) rfl rfl rfl ?_
  rintro v2 hp2 st2
  obtain ⟨A6, n6, c6, rfl, _⟩ := st2.row 0 rfl
  replace st := St.star.2 (st.join st2)
  have st3 := st.perm (List.perm_append_comm_assoc [rowsR 162 2 ((.slice A6 n6 c6, (rowE (sy.map (wkey ws)) (j + 1)).flatMap eC) :: L), pt q 72 [.slice A2 m d], pt p 72 [.slice A n c], Bn.row 3 1 (.slice A2 m d) (sy.map nV)] (JR vs) F)
  refine XA rfl rfl rfl (XR_nil (X_seq (X_reg (XV rfl rfl rfl (XV rfl rfl rfl ?_)))))
  refine XR_ya (opy_yield rfl (hround vs _ _ _ st3.low (by omega) rfl st3.here) rfl) rfl rfl rfl ?_
  rintro _ hp3 ⟨rfl, st4⟩
  have st5 := (st3.trans st4).perm (List.perm_append_comm_assoc (JR (vs ++ [Value.slice A6 n6 c6])) [rowsR 162 2 ((.slice A6 n6 c6, (rowE (sy.map (wkey ws)) (j + 1)).flatMap eC) :: L), pt q 72 [.slice A2 m d], pt p 72 [.slice A n c], Bn.row 3 1 (.slice A2 m d) (sy.map nV)] F)
  first | refine XR_a (op_notd rfl) rfl rfl ?_ | refine XR_a (op_not rfl) rfl rfl ?_
  refine XR_nil (X_else rfl (X_skip (X_blk (X_reg ?_))))
  first | refine XR_a (op_addN (n := 1) rfl rfl (by simp only [inK]; omega)) rfl rfl ?_ | refine XR_a (op_addI rfl rfl (by simp only [inK]; omega)) rfl rfl ?_ | refine XR_a (op_add rfl rfl) rfl rfl ?_
  refine XV rfl rfl rfl (XR_nil ?_)
  refine X_again (j + 1, Value.slice A6 n6 c6, vs ++ [Value.slice A6 n6 c6], (Value.slice A6 n6 c6, (rowE (sy.map (wkey ws)) (j + 1)).flatMap eC) :: L) (.cons rfl (.cons rfl (.cons rfl (.cons rfl (.cons rfl (.nil _)))))) ⟨by simp only; omega, by simp [hvs], fun i hi => ?_, .inr (by simp), st5⟩ (by simp only; omega)
  simp only at hi ⊢
  rcases Nat.lt_or_ge i j with h1 | h1
  ·rw [show (vs ++ [Value.slice A6 n6 c6]).getD i (.slice none 0 0) = vs.getD i (.slice none 0 0) by rw [List.getD, List.getD, List.getElem?_append_left (by omega)]]
   exact List.mem_cons_of_mem _ (hL i h1)
  ·obtain rfl : i = j := by omega
   rw [show (vs ++ [Value.slice A6 n6 c6]).getD i (.slice none 0 0) = Value.slice A6 n6 c6 by rw [List.getD, List.getElem?_append_right (by omega), hvs, Nat.sub_self]; rfl]
   exact List.mem_cons_self
 ·refine X_exit rfl ?_
  refine X_end .nil ?_
  obtain rfl : j = 15 := by omega
  refine ⟨vs, L, hvs, hL, ?_⟩
  have h1 := st.perm (List.perm_append_comm_assoc [rowsR 162 2 L, pt q 72 [.slice A2 m d], pt p 72 [.slice A n c], Bn.row 3 1 (.slice A2 m d) (sy.map nV)] (JR vs) F)
  have h2 : (JR vs ++ (([rowsR 162 2 L, pt q 72 [.slice A2 m d], pt p 72 [.slice A n c], Bn.row 3 1 (.slice A2 m d) (sy.map nV)] : List Res) ++ F)).Perm (pt q 72 [.slice A2 m d] :: pt p 72 [.slice A n c] :: (JR vs ++ (rowsR 162 2 L :: Bn.row 3 1 (.slice A2 m d) (sy.map nV) :: F))) := by
   refine (List.perm_append_comm_assoc _ _ _).trans ?_
   refine (List.Perm.append_right _ (?_ : List.Perm _ ([pt q 72 [.slice A2 m d], pt p 72 [.slice A n c]] ++ [rowsR 162 2 L, Bn.row 3 1 (.slice A2 m d) (sy.map nV)]))).trans ?_
   ·exact (List.perm_middle (l₁ := [pt q 72 [.slice A2 m d], pt p 72 [.slice A n c]])).symm
   ·rw [List.append_assoc]
    exact ((List.perm_append_comm_assoc [rowsR 162 2 L, Bn.row 3 1 (.slice A2 m d) (sy.map nV)] (JR vs) F).cons _).cons _
  exact (h1.perm h2).tail.tail
theorem appendSeq_rows {B gf : Nat} {lb : List Value} {α : Type} {Q : α → Prop} {out : α → List Value} {F : List Res} {F2 : α → List Res} {h0 : Heap} (st0 : St B h0 h0 F) (hc : callOk Try.prog gf = true)
  (hiter : ∀ (JR : List Value → List Res) (G : List Res) (y : Nat) (h : Heap), Low B h0 h → St B h h (F ++ (JR [] ++ G)) →
   (∀ (s : List Value) (v : Value) (F' : List Res) (h' : Heap), Low B h h' → s.length ≤ 14 → Value.one v = true → St B h' h' (JR s ++ F') → RRet Try.prog y [v] h' fun u h'' => u = .bool true ∧ St B h' h'' (JR (s ++ [v]) ++ F')) →
   Ret Try.prog gf (.func (.yield y) #[] #[] :: lb) h fun _ h' => ∃ x, Q x ∧ St B h h' (JR (out x) ++ (F2 x ++ G))) :
  Ret Try.prog 109 [.slice none 0 0, .func (.func gf) #[] lb.toArray] h0 fun v h' => ∃ x, Q x ∧ St B h0 h' (Bn.row 154 1 v (out x) :: F2 x) := by
 refine ret_of_X Try.func109 rfl rfl fun w0 hw0 => ?_
 simp only [argE, Nat.zero_add, Nat.reduceAdd]
 refine X_seq (X_reg ?_)
 refine XR_wa (opl_bx rfl rfl) rfl rfl rfl ?_
 rintro _ hp ⟨p, rfl, hnew⟩
 have st := (st0.new hnew).nilrow 154 1
 refine XA rfl rfl rfl (XR_nil (X_seq (X_seq (X_reg (XV rfl rfl rfl (XR_nil (X_block ?_)))))))
 refine X_rangeS st rfl rfl hc fun fn tmps L y d hp1 hL hok hx1 st1 => ?_
 obtain ⟨JR, hJR⟩ : ∃ JR : List Value → List Res, JR = fun s => [obj y (L .ready none), exR fun v => starR (Bn.row 154 1 v s) (pt p 152 [v])] := ⟨_, rfl⟩
 have st2 : St B h0 hp1 (F ++ (JR [] ++ [obj d (.deferred (some []))])) := by
  have s1 := st1.perm ((List.perm_append_comm (l₁ := [obj y (L .ready none), obj d (.deferred (some [])), Bn.row 154 1 (.slice none 0 0) [], pt p 152 [.slice none 0 0]]) (l₂ := F)).trans (List.Perm.refl _))
  have s2 := s1.perm (List.perm_append_comm (l₁ := F))
  have s3 : St B h0 hp1 (Bn.row 154 1 (.slice none 0 0) [] :: pt p 152 [.slice none 0 0] :: obj y (L .ready none) :: obj d (.deferred (some [])) :: F) :=
   s2.perm (List.perm_append_comm_assoc [obj y (L .ready none), obj d (.deferred (some []))] [Bn.row 154 1 (.slice none 0 0) [], pt p 152 [.slice none 0 0]] F)
  have s4 : St B h0 hp1 ((exR fun v => starR (Bn.row 154 1 v []) (pt p 152 [v])) :: obj y (L .ready none) :: obj d (.deferred (some [])) :: F) := St.ex.2 ⟨Value.slice none 0 0, St.star.2 s3⟩
  have s5 := s4.perm ((List.Perm.swap _ _ _).trans (List.perm_append_comm (l₁ := [obj y (L .ready none), exR fun v => starR (Bn.row 154 1 v []) (pt p 152 [v]), obj d (.deferred (some []))]) (l₂ := F)))
  rw [hJR]; exact s5
 refine Ret.mono (hiter JR [obj d (.deferred (some []))] y hp1 st2.low st2.here ?_) ?_
 ·intro s u0 F' h hlow hs14 hv1 st3
  subst hL
  subst hJR
  simp only [List.cons_append, List.nil_append] at st3
  obtain ⟨v9, st3⟩ := St.ex.1 (st3.perm (List.Perm.swap _ _ _))
  have st := (St.star.1 st3)
  refine rret_of_X (st.obj_at 2 rfl) hok rfl rfl fun w0 hw0 => ?_
  simp only [penv]
  refine X_reg (XA rfl rfl rfl (XR_nil ?_))
  refine X_begin (st.obj_at 2 rfl) ?_
  replace st := st.loop 2 .busy none rfl
  simp only [List.set_cons_zero, List.set_cons_succ] at st
  refine X_block (X_reg ?_)
  refine XR_a (op_ld (st.cell 1 (i := 0) rfl rfl) rfl rfl rfl) rfl rfl ?_
  refine XV rfl rfl rfl ?_
  refine XR_wa (opl_var1 rfl hv1 rfl) rfl rfl rfl ?_
  rintro _ hp ⟨A, rfl, hx, hrd⟩
  replace st := st.ext hx
  refine XR_wa (opl_append st 0 rfl (hrd) (rfl) (by intro u hu; rw [List.mem_singleton.1 hu]; exact hv1) (by simp; omega) rfl rfl rfl rfl rfl rfl rfl) rfl rfl rfl fun v hp st => ?_
  simp only [List.set_cons_zero, List.set_cons_succ] at st
  obtain ⟨A6, n6, c6, rfl, _⟩ := st.row 0 rfl
  refine XR_wn (opl_store_pt st 1 rfl rfl rfl rfl rfl (rfl)) rfl rfl fun _ hp st => ?_
  simp only [List.set_cons_zero, List.set_cons_succ] at st
  refine XR_nil (X_blk ?_)
  refine X_rnd (st.obj_at 2 rfl) ⟨rfl, ?_⟩
  replace st := st.loop 2 .ready none rfl
  simp only [List.set_cons_zero, List.set_cons_succ] at st
  have s6 := (St.ex.2 ⟨_, St.star.2 st⟩ : St B h _ ((exR fun v => starR (Bn.row 154 1 v (s ++ [u0])) (pt p 152 [v])) :: _))
  exact s6.perm (List.Perm.swap _ _ _)
 rintro _ h' ⟨x, hQ, st3⟩
 subst hJR
 simp only [List.cons_append, List.nil_append] at st3
 refine .inl ⟨_, st2.trans st3, fun hp3 st4 => ?_⟩
 obtain ⟨v9, st4⟩ := St.ex.1 (st4.perm (List.Perm.swap _ _ _))
 have st := St.star.1 st4
 refine X_blk (X_seq (X_reg ?_))
 refine XR_a (op_ld (st.cell 1 (i := 0) rfl rfl) rfl rfl rfl) rfl rfl ?_
 refine XA rfl rfl rfl (XR_nil ?_)
 have hperm : (Bn.row 154 1 v9 (out x) :: pt p 152 [v9] :: obj y (L .exhausted none) :: (F2 x ++ [obj d (.deferred (some []))])).Perm (obj d (.deferred (some [])) :: obj y (L .exhausted none) :: pt p 152 [v9] :: Bn.row 154 1 v9 (out x) :: F2 x) := by
  refine (List.perm_append_comm (l₁ := Bn.row 154 1 v9 (out x) :: pt p 152 [v9] :: obj y (L .exhausted none) :: F2 x) (l₂ := [obj d (.deferred (some []))])).trans (List.Perm.cons _ ?_)
  exact (List.perm_append_comm_assoc [Bn.row 154 1 v9 (out x), pt p 152 [v9]] [obj y (L .exhausted none)] (F2 x)).trans (List.Perm.cons _ (List.Perm.swap _ _ _))
 replace st := st.perm hperm
 refine X_retM (d := d) (.cons (.tmp rfl) .nil) ?_ (st.obj_at 0 rfl)
 replace st := st.put 0 (.deferred none) rfl
 exact ⟨x, hQ, st.tail.tail.tail⟩
theorem collect_rows {B gf : Nat} {lb : List Value} {α : Type} {Q : α → Prop} {out : α → List Value} {F : List Res} {F2 : α → List Res} {h0 : Heap} (st0 : St B h0 h0 F) (hc : callOk Try.prog gf = true)
  (hiter : ∀ (JR : List Value → List Res) (G : List Res) (y : Nat) (h : Heap), Low B h0 h → St B h h (F ++ (JR [] ++ G)) →
   (∀ (s : List Value) (v : Value) (F' : List Res) (h' : Heap), Low B h h' → s.length ≤ 14 → Value.one v = true → St B h' h' (JR s ++ F') → RRet Try.prog y [v] h' fun u h'' => u = .bool true ∧ St B h' h'' (JR (s ++ [v]) ++ F')) →
   Ret Try.prog gf (.func (.yield y) #[] #[] :: lb) h fun _ h' => ∃ x, Q x ∧ St B h h' (JR (out x) ++ (F2 x ++ G))) :
  Ret Try.prog 82 [.func (.func gf) #[] lb.toArray] h0 fun v h' => ∃ x, Q x ∧ St B h0 h' (Bn.row 154 1 v (out x) :: F2 x) := by
 refine ret_of_X Try.func82 rfl rfl fun w0 hw0 => ?_
 simp only [argE, Nat.zero_add, Nat.reduceAdd]
 refine X_seq (X_reg (XA rfl rfl rfl (XR_nil (X_seq (X_reg (XV rfl rfl rfl ?_))))))
 refine XR_wa (opl_call (appendSeq_rows st0 hc hiter) rfl (by kernel_rfl)) rfl rfl rfl ?_
 rintro v hp h
 refine XA rfl rfl rfl (XR_nil ?_)
 refine X_ret (.cons (.tmp rfl) .nil) ?_
 exact h
theorem backward_spec {n c : Nat} {A : Option Addr} {h0 : Heap} : Ret Try.prog 84 [.slice A n c] h0 fun v h' => ∃ p, v = .func (.func 112) #[] #[.pointer (some ⟨p, 0, none⟩)] ∧ St h0.size h0 h' [pt p 152 [.slice A n c]] := by
 refine ret_of_X Try.func84 rfl rfl fun w0 hw0 => ?_
 simp only [argE, Nat.zero_add, Nat.reduceAdd]
 have st := St.start h0
 refine X_seq (X_reg ?_)
 refine XR_wa (opl_bx rfl rfl) rfl rfl rfl ?_
 rintro _ hp ⟨p, rfl, hnew⟩
 replace st := st.new hnew
 refine XA rfl rfl rfl (XR_nil (X_seq (X_reg ?_)))
 refine XR_a (op_mkFunc rfl) rfl rfl ?_
 refine XA rfl rfl rfl (XR_nil ?_)
 refine X_ret (.cons (.tmp rfl) .nil) ?_
 exact ⟨_, rfl, st⟩
theorem backward_iter {B y p m c : Nat} {A : Option Addr} {vs : List Value} {F : List Res} {h0 : Heap} (JR : Nat → List Res) (hm : m ≤ 1048576)
  (st0 : St B h0 h0 (pt p 152 [.slice A m c] :: Bn.row 154 1 (.slice A m c) vs :: (JR 0 ++ F)))
  (hround : ∀ (j : Nat) (F' : List Res) (h : Heap), Low B h0 h → j < m → St B h h (JR j ++ F') → RRet Try.prog y [nV (m - 1 - j), vs.getD (m - 1 - j) (.slice none 0 0)] h fun u h' => u = .bool true ∧ St B h h' (JR (j + 1) ++ F')) :
  Ret Try.prog 112 [.func (.yield y) #[] #[], .pointer (some ⟨p, 0, none⟩)] h0 fun _ h' => St B h0 h' (JR m ++ F) := by
 have hvl : vs.length = m := by
  obtain ⟨_, _, _, he, hl2, _⟩ := st0.row 1 rfl
  cases he; simpa using hl2
 refine ret_of_X Try.func112 rfl rfl fun w0 hw0 => ?_
 simp only [argE, Nat.zero_add, Nat.reduceAdd]
 refine X_seq (X_reg ?_)
 refine XR_a (op_ld (st0.cell 0 (i := 0) rfl rfl) rfl rfl rfl) rfl rfl ?_
 refine XR_a (op_len rfl rfl rfl) rfl rfl ?_
 first | refine XR_a (op_subN (n := 1) rfl rfl (by omega) (by simp only [inK]; omega)) rfl rfl ?_ | refine XR_a (op_subI rfl rfl (by simp only [inK]; omega)) rfl rfl ?_ | refine XR_a (op_sub rfl rfl) rfl rfl ?_
 refine XA rfl rfl rfl (XR_nil (X_block ?_))
 refine X_loop (fun j => m - j) (fun j => [(0, .func (.yield y) #[] #[]), (1, .pointer (some ⟨p, 0, none⟩)), (3, .int .i64 ((m : Int) - 1 - (j : Int)))])
  (fun (j : Nat) hp => j ≤ m ∧ St B h0 hp (pt p 152 [.slice A m c] :: Bn.row 154 1 (.slice A m c) vs :: (JR j ++ F)))
  0 (.cons rfl (.cons rfl (.cons (by rw [show (m : Int) - 1 - ((0 : Nat) : Int) = (m : Int) - 1 by omega]; rfl) (.nil _)))) ⟨Nat.zero_le _, st0⟩ ?_
 rintro j hp ⟨hj, st⟩
 refine X_seq (X_seq (X_reg (XV rfl rfl rfl ?_)))
 refine XR_a (op_geq rfl rfl) rfl rfl ?_
 refine XR_nil ?_
 refine X_if rfl (fun h => ?_) (fun h => ?_)
 ·have hjm : j < m := by omega
  rw [show (m : Int) - 1 - (j : Int) = ((m - 1 - j : Nat) : Int) by omega]
  have hrs := (st.rdS 1 rfl).2
  obtain ⟨g, o, rfl, hcA⟩ := hrs.at_ (by omega)
  have hci := hcA (m - 1 - j) (vs.getD (m - 1 - j) (.slice none 0 0)) (by rw [List.getElem?_eq_getElem (by omega)]; simp [List.getD, hvl, show m - 1 - j < m by omega])
  refine X_skip (X_seq (X_block (X_seq (X_reg (XV rfl rfl rfl (XV rfl rfl rfl ?_))))))
  refine XR_a (op_ld (st.cell 0 (i := 0) rfl rfl) rfl rfl rfl) rfl rfl ?_
  refine XV rfl rfl rfl ?_
  first | refine XR_a (op_index1 rfl rfl rfl (by omega)) rfl rfl ?_ | refine XR_a (op_index rfl rfl rfl (by omega)) rfl rfl ?_
  refine XR_a (op_ld (hci) rfl rfl rfl) rfl rfl ?_
  refine XR_ya (opy_yield rfl (hround j _ _ st.low hjm (st.here.perm (List.perm_append_comm_assoc [pt p 152 [.slice _ m c], Bn.row 154 1 (.slice _ m c) vs] (JR j) F))) rfl) rfl rfl rfl ?_
  rintro _ hp3 ⟨rfl, st4⟩
  have st5 := st.trans (st4.perm (List.perm_append_comm_assoc (JR (j + 1)) [pt p 152 [.slice _ m c], Bn.row 154 1 (.slice _ m c) vs] F))
  first | refine XR_a (op_notd rfl) rfl rfl ?_ | refine XR_a (op_not rfl) rfl rfl ?_
  refine XR_nil (X_else rfl (X_skip (X_blk (X_reg (XV rfl rfl rfl ?_)))))
  refine XR_a (op_subI rfl rfl (by simp only [inK]; omega)) rfl rfl ?_
  refine XA rfl rfl rfl (XR_nil ?_)
  exact X_again (j + 1) (.cons rfl (.cons rfl (.cons (by rw [show (m : Int) - 1 - ((j + 1 : Nat) : Int) = ((m - 1 - j : Nat) : Int) - 1 by omega]; rfl) (.nil _)))) ⟨by omega, st5⟩ (by omega)
 ·refine X_exit rfl ?_
  refine X_end .nil ?_
  obtain rfl : j = m := by omega
  exact st.tail.tail
end Go.Bn
end
