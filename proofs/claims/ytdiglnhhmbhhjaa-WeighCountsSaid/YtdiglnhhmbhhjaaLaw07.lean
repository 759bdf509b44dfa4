/- The laws of weigh's lengths and counts. -/
import Derived.Test.YtdiglnhhmbhhjaaRefLen3
set_option linter.unusedVariables false
set_option linter.unusedSimpArgs false
set_option maxHeartbeats 4000000
set_option maxRecDepth 20000
namespace Go.Bn
open Go Proofs

theorem syms_112 : syms [1, 1, 2] = [0, 1, 2] := by
  refine (syms_eq ?_ ?_).symm
  · have : flt [1, 1, 2] = [0, 1, 2] := by decide
    rw [this]
  · simp [RkS, Rk, wkey]
theorem pow_step {a k : Nat} (h : k ≤ a) : 2 ^ (15 - a) ≤ 2 ^ (15 - k) := Nat.pow_le_pow_right (by omega) (by omega)
theorem lensW_112 : lensW [1, 1, 2] = [2, 2, 1] := by
  have hs := syms_112
  have hk := lensW_kraft (ws := [1, 1, 2]) (by rw [hs]; decide) (by decide)
  have hp : ∀ s, s ∈ syms [1, 1, 2] → 1 ≤ lenW [1, 1, 2] s ∧ lenW [1, 1, 2] s ≤ 15 := fun s h => ⟨lenW_pos (by decide) h, lenW_le _ _⟩
  have h0 := hp 0 (by rw [hs]; decide)
  have h1 := hp 1 (by rw [hs]; decide)
  have h2 := hp 2 (by rw [hs]; decide)
  have m0 := lenW_mono (ws := [1, 1, 2]) (s := 0) (t := 2) (by rw [hs]; decide) (by rw [hs]; decide) (by decide)
  have m1 := lenW_mono (ws := [1, 1, 2]) (s := 1) (t := 2) (by rw [hs]; decide) (by rw [hs]; decide) (by decide)
  have e : lensW [1, 1, 2] = [lenW [1, 1, 2] 0, lenW [1, 1, 2] 1, lenW [1, 1, 2] 2] := rfl
  rw [e] at hk ⊢
  generalize lenW [1, 1, 2] 0 = a at *
  generalize lenW [1, 1, 2] 1 = b at *
  generalize lenW [1, 1, 2] 2 = c at *
  have hk2 : 2 ^ (15 - a) + (2 ^ (15 - b) + (2 ^ (15 - c) + 0)) = 32768 := by
    have : kraft [a, b, c] = unitK a + (unitK b + (unitK c + 0)) := rfl
    rw [this] at hk
    unfold unitK at hk
    rwa [if_neg (by omega), if_neg (by omega), if_neg (by omega)] at hk
  have pa : 0 < 2 ^ (15 - a) := Nat.pow_pos (by omega)
  have pb : 0 < 2 ^ (15 - b) := Nat.pow_pos (by omega)
  have step : ∀ x k, k ≤ x → 2 ^ (15 - x) ≤ 2 ^ (15 - k) := fun x k h => pow_step h
  have hc : c = 1 := by
    refine Classical.byContradiction fun hne => ?_
    have q1 := step a 2 (by omega)
    have q2 := step b 2 (by omega)
    have q3 := step c 2 (by omega)
    simp only [show 2 ^ (15 - 2) = 8192 from rfl] at q1 q2 q3
    omega
  subst hc
  simp only [show 2 ^ (15 - 1) = 16384 from rfl] at hk2
  have ha1 : a ≠ 1 := fun h => by subst h; simp only [show 2 ^ (15 - 1) = 16384 from rfl] at hk2; omega
  have hb1 : b ≠ 1 := fun h => by subst h; simp only [show 2 ^ (15 - 1) = 16384 from rfl] at hk2; omega
  have qa := step a 2 (by omega)
  have qb := step b 2 (by omega)
  simp only [show 2 ^ (15 - 2) = 8192 from rfl] at qa qb
  have ha : a = 2 := by
    refine Classical.byContradiction fun hne => ?_
    have q := step a 3 (by omega)
    simp only [show 2 ^ (15 - 3) = 4096 from rfl] at q
    omega
  have hb : b = 2 := by
    refine Classical.byContradiction fun hne => ?_
    have q := step b 3 (by omega)
    simp only [show 2 ^ (15 - 3) = 4096 from rfl] at q
    omega
  rw [ha, hb]

theorem lives07 (h0 : Heap) : Ret Try.prog 30 [] h0 fun v h' => v = .bool true ∧ Ext h0 h' := by
  refine ret_of_X Try.func30 rfl rfl fun w0 hw0 => ?_
  simp only [argE, Nat.zero_add, Nat.reduceAdd]
  have st := St.start h0
  refine X_seq ?_
  refine X_reg ?_
  refine XR_a (op_assign rfl) rfl rfl ?_
  refine XR_nil ?_
  refine X_seq ?_
  refine X_reg ?_
  refine XR_wa (opl_lits [iV 1, iV 1, iV 2] rfl rfl rfl rfl (by kernel_rfl) rfl) rfl rfl rfl ?_
  rintro w hp hnew
  replace st := st.new hnew
  obtain ⟨A3, n3, c3, rfl, hlen3, _, _, hrd3⟩ := st.row 0 rfl
  obtain rfl : n3 = 3 := by simpa using hlen3.symm
  have hR0 : errW [1, 1, 2] = 0 := by decide
  refine XR_wa (opl_call (lengths_spec (li := [1, 1, 2]) hrd3 rfl (by decide)) rfl (by kernel_rfl)) rfl rfl rfl ?_
  rintro _ hp2 ⟨w, rfl, st2⟩
  have hv : lensI [1, 1, 2] = [2, 2, 1] := by
    unfold lensI
    rw [if_pos hR0]
    exact lensW_112
  rw [hv] at st2
  obtain ⟨g4, n4, c4, rfl, hlen4, _, _, hrd4⟩ := st2.row0 0 rfl (by simp)
  obtain rfl : n4 = 3 := by simpa using hlen4.symm
  obtain ⟨g5, o5, e5, hc5⟩ := hrd4.at_ (by simp)
  obtain ⟨rfl, rfl⟩ : g4 = g5 ∧ 0 = o5 := by simpa using e5
  rw [hR0]
  refine XR_a (op_move rfl) rfl rfl ?_
  refine XR_a (op_extract rfl rfl) rfl rfl ?_
  refine XR_a (op_extract rfl rfl) rfl rfl ?_
  refine XR_a (op_assign rfl) rfl rfl ?_
  refine XR_a (op_assign rfl) rfl rfl ?_
  refine XR_nil ?_
  refine X_seq ?_
  refine X_reg ?_
  refine XR_a (op_move rfl) rfl rfl ?_
  refine XR_a (op_eql rfl rfl) rfl rfl ?_
  refine XR_a (op_move rfl) rfl rfl ?_
  refine XR_a (op_move rfl) rfl rfl ?_
  refine XR_a (op_len rfl rfl rfl) rfl rfl ?_
  refine XR_a (op_eql rfl rfl) rfl rfl ?_
  refine XR_a (op_pick_t rfl rfl) rfl rfl ?_
  refine XR_a (op_move rfl) rfl rfl ?_
  refine XR_a (op_move rfl) rfl rfl ?_
  refine XR_a (op_index1 (i := 0) rfl rfl rfl (by omega)) rfl rfl ?_
  refine XR_a (op_ld (hc5 0 _ rfl) rfl rfl rfl) rfl rfl ?_
  refine XR_a (op_eql rfl rfl) rfl rfl ?_
  refine XR_a (op_pick_t rfl rfl) rfl rfl ?_
  refine XR_a (op_move rfl) rfl rfl ?_
  refine XR_a (op_move rfl) rfl rfl ?_
  refine XR_a (op_index1 (i := 1) rfl rfl rfl (by omega)) rfl rfl ?_
  refine XR_a (op_ld (hc5 1 _ rfl) rfl rfl rfl) rfl rfl ?_
  refine XR_a (op_eql rfl rfl) rfl rfl ?_
  refine XR_a (op_pick_t rfl rfl) rfl rfl ?_
  refine XR_a (op_move rfl) rfl rfl ?_
  refine XR_a (op_move rfl) rfl rfl ?_
  refine XR_a (op_index1 (i := 2) rfl rfl rfl (by omega)) rfl rfl ?_
  refine XR_a (op_ld (hc5 2 _ rfl) rfl rfl rfl) rfl rfl ?_
  refine XR_a (op_eql rfl rfl) rfl rfl ?_
  refine XR_a (op_pick_t rfl rfl) rfl rfl ?_
  refine XR_a (op_assign rfl) rfl rfl ?_
  refine XR_nil ?_
  refine X_ret (.cons (.tmp rfl) .nil) ?_
  exact ⟨rfl, Ext.trans st.low st2.low⟩

theorem wkey_bd {li : List Int} (hR : boundedB 1073741824 li) (s : Nat) : wkey (li.map Int.toNat) s ≤ 1073741824 := by
  unfold wkey
  rcases Nat.lt_or_ge s li.length with h1 | h1
  · have := (hR.2 li[s] (List.getElem_mem h1)).2
    simp [List.getD, h1]; omega
  · simp [List.getD, h1]
theorem weighLengths_ret {n c : Nat} {A : Option Addr} {li : List Int} {h0 : Heap} (hr : Rd h0 A (li.map iV)) (hl : li.length = n) (hn : n ≤ 17592186044416) :
    Ret Try.prog 7 [.slice A n c] h0 fun v h' => v = .bool true ∧ Ext h0 h' := by
  refine ret_of_X Try.func7 rfl rfl fun w0 hw0 => ?_
  simp only [argE, Nat.zero_add, Nat.reduceAdd]
  refine X_seq ?_
  refine X_reg ?_
  refine XR_a (op_assign rfl) rfl rfl ?_
  by_cases hR : boundedB 1073741824 li
  · refine XR_nil ?_
    refine X_seq ?_
    refine X_seq ?_
    refine X_reg ?_
    refine XR_a (op_move rfl) rfl rfl ?_
    refine XR_a (op_len rfl rfl rfl) rfl rfl ?_
    refine XR_a (op_gtr rfl rfl) rfl rfl ?_
    refine XR_nil ?_
    refine X_if rfl (fun h => ?_) (fun h => ?_)
    · refine X_seq ?_
      refine X_reg ?_
      refine XR_wa (opl_call (lives07 h0) rfl (by kernel_rfl)) rfl rfl rfl ?_
      rintro _ hp ⟨rfl, hx⟩
      refine XR_a (op_assign rfl) rfl rfl ?_
      refine XR_nil ?_
      refine X_ret (.cons (.tmp rfl) .nil) ?_
      exact ⟨rfl, hx⟩
    · refine X_skip ?_
      refine X_seq ?_
      refine X_reg ?_
      refine XR_a (op_move rfl) rfl rfl ?_
      refine XR_wa (opl_call (lengths_spec hr hl hn) rfl (by kernel_rfl)) rfl rfl rfl ?_
      rintro _ hp1 ⟨w, rfl, st⟩
      have he0 := errW_zero.2 hR
      have hlens : lensI li = lensW (li.map Int.toNat) := by unfold lensI; rw [if_pos he0]
      rw [hlens] at st
      rw [he0]
      have hn320 := hR.1
      obtain ⟨A3, n3, c3, rfl, hl3, _, _, hrd3⟩ := st.row 0 rfl
      rw [List.length_map, lensW_length, List.length_map, Nat.mul_one] at hl3
      refine XR_a (op_move rfl) rfl rfl ?_
      refine XR_a (op_extract rfl rfl) rfl rfl ?_
      refine XR_a (op_extract rfl rfl) rfl rfl ?_
      refine XR_a (op_assign rfl) rfl rfl ?_
      refine XR_a (op_assign rfl) rfl rfl ?_
      refine XR_nil ?_
      refine X_seq ?_
      refine X_seq ?_
      refine X_reg ?_
      refine XR_a (op_move rfl) rfl rfl ?_
      refine XR_a (op_len rfl rfl rfl) rfl rfl ?_
      refine XR_a (op_gtr rfl rfl) rfl rfl ?_
      refine XR_nil ?_
      refine X_if rfl (fun h => ?_) (fun h => ?_)
      · exact absurd h (by omega)
      · refine X_skip ?_
        refine X_seq ?_
        refine X_seq ?_
        refine X_reg ?_
        refine XR_a (op_move rfl) rfl rfl ?_
        refine XR_wa (opl_call (right_ref 1073741824 (hr.ext st.low) hl hn) rfl (by kernel_rfl)) rfl rfl rfl ?_
        rintro _ hp2 ⟨rfl, rfl⟩
        rw [decide_eq_true hR]
        refine XR_a (op_not rfl) rfl rfl ?_
        refine XR_nil ?_
        refine X_else rfl ?_
        refine X_skip ?_
        refine X_seq ?_
        refine X_reg ?_
        refine XR_a (op_move rfl) rfl rfl ?_
        refine XR_a (op_eql rfl rfl) rfl rfl ?_
        refine XR_a (op_move rfl) rfl rfl ?_
        refine XR_a (op_move rfl) rfl rfl ?_
        refine XR_a (op_move rfl) rfl rfl ?_
        refine XR_wa (opl_call (lengths_ref (ws := li.map Int.toNat) (by rw [← bounded_nat hR]; exact hr.ext st.low) (by rw [List.length_map]; exact hl) (by omega) (wkey_bd hR)) rfl (by kernel_rfl)) rfl rfl rfl ?_
        rintro v3 hp3 st3
        obtain ⟨A4, n4, c4, rfl, hl4, _, _, hrd4⟩ := st3.row 0 rfl
        rw [List.length_map, lensW_length, List.length_map, Nat.mul_one] at hl4
        replace hrd3 := hrd3.ext st3.low
        rw [nV_iV] at hrd3 hrd4
        refine XR_wa (opl_call (ints_ref hrd3 (by rw [List.length_map, lensW_length, List.length_map]; exact hl3) hrd4 (by rw [List.length_map, lensW_length, List.length_map]; exact hl4) (by omega)) rfl (by kernel_rfl)) rfl rfl rfl ?_
        rintro _ hp4 ⟨rfl, rfl⟩
        rw [decide_eq_true rfl]
        refine XR_a (op_pick_t rfl rfl) rfl rfl ?_
        refine XR_a (op_move rfl) rfl rfl ?_
        refine XR_wa (opl_call (lives07 _) rfl (by kernel_rfl)) rfl rfl rfl ?_
        rintro _ hp5 ⟨rfl, hx5⟩
        refine XR_a (op_pick_t rfl rfl) rfl rfl ?_
        refine XR_a (op_assign rfl) rfl rfl ?_
        refine XR_nil ?_
        refine X_ret (.cons (.tmp rfl) .nil) ?_
        exact ⟨rfl, Ext.trans (Ext.trans st.low st3.low) hx5⟩
  · refine XR_nil ?_
    refine X_seq ?_
    refine X_seq ?_
    refine X_reg ?_
    refine XR_a (op_move rfl) rfl rfl ?_
    refine XR_a (op_len rfl rfl rfl) rfl rfl ?_
    refine XR_a (op_gtr rfl rfl) rfl rfl ?_
    refine XR_nil ?_
    refine X_if rfl (fun h => ?_) (fun h => ?_)
    · refine X_seq ?_
      refine X_reg ?_
      refine XR_wa (opl_call (lives07 h0) rfl (by kernel_rfl)) rfl rfl rfl ?_
      rintro _ hp ⟨rfl, hx⟩
      refine XR_a (op_assign rfl) rfl rfl ?_
      refine XR_nil ?_
      refine X_ret (.cons (.tmp rfl) .nil) ?_
      exact ⟨rfl, hx⟩
    · refine X_skip ?_
      refine X_seq ?_
      refine X_reg ?_
      refine XR_a (op_move rfl) rfl rfl ?_
      refine XR_wa (opl_call (lengths_spec hr hl hn) rfl (by kernel_rfl)) rfl rfl rfl ?_
      rintro _ hp1 ⟨w, rfl, st⟩
      have hlens : lensI li = [] := by unfold lensI; rw [if_neg (fun h => hR (errW_zero.1 h))]
      rw [hlens] at st
      obtain ⟨A3, n3, c3, rfl, hl3, _, _, hrd3⟩ := st.row 0 rfl
      obtain rfl : n3 = 0 := by simpa using hl3.symm
      refine XR_a (op_move rfl) rfl rfl ?_
      refine XR_a (op_extract rfl rfl) rfl rfl ?_
      refine XR_a (op_extract rfl rfl) rfl rfl ?_
      refine XR_a (op_assign rfl) rfl rfl ?_
      refine XR_a (op_assign rfl) rfl rfl ?_
      refine XR_nil ?_
      refine X_seq ?_
      refine X_seq ?_
      refine X_reg ?_
      refine XR_a (op_move rfl) rfl rfl ?_
      refine XR_a (op_len rfl rfl rfl) rfl rfl ?_
      refine XR_a (op_gtr rfl rfl) rfl rfl ?_
      refine XR_nil ?_
      refine X_if rfl (fun h => ?_) (fun h => ?_)
      · have he : errW li = 5 := by unfold errW; rw [if_pos (by omega)]
        refine X_seq ?_
        refine X_reg ?_
        refine XR_a (op_move rfl) rfl rfl ?_
        refine XR_a (op_eql rfl rfl) rfl rfl ?_
        refine XR_as (.bool true) (congrArg Value.bool (decide_eq_true he)) ?_
        refine XR_a (op_move rfl) rfl rfl ?_
        refine XR_a (op_move rfl) rfl rfl ?_
        refine XR_a (op_len rfl rfl rfl) rfl rfl ?_
        refine XR_a (op_eql rfl rfl) rfl rfl ?_
        refine XR_a (op_pick_t rfl rfl) rfl rfl ?_
        refine XR_a (op_move rfl) rfl rfl ?_
        refine XR_wa (opl_call (lives07 _) rfl (by kernel_rfl)) rfl rfl rfl ?_
        rintro _ hp2 ⟨rfl, hx2⟩
        refine XR_a (op_pick_t rfl rfl) rfl rfl ?_
        refine XR_a (op_assign rfl) rfl rfl ?_
        refine XR_nil ?_
        refine X_ret (.cons (.tmp rfl) .nil) ?_
        exact ⟨rfl, Ext.trans st.low hx2⟩
      · refine X_skip ?_
        refine X_seq ?_
        refine X_seq ?_
        refine X_reg ?_
        refine XR_a (op_move rfl) rfl rfl ?_
        refine XR_wa (opl_call (right_ref 1073741824 (hr.ext st.low) hl hn) rfl (by kernel_rfl)) rfl rfl rfl ?_
        rintro _ hp2 ⟨rfl, rfl⟩
        rw [decide_eq_false hR]
        refine XR_a (op_not rfl) rfl rfl ?_
        refine XR_nil ?_
        refine X_then rfl ?_
        refine X_seq ?_
        have he : errW li = 1 := by unfold errW; rw [if_neg (by omega), if_neg hR]
        refine X_reg ?_
        refine XR_a (op_move rfl) rfl rfl ?_
        refine XR_a (op_eql rfl rfl) rfl rfl ?_
        refine XR_as (.bool true) (congrArg Value.bool (decide_eq_true he)) ?_
        refine XR_a (op_move rfl) rfl rfl ?_
        refine XR_a (op_move rfl) rfl rfl ?_
        refine XR_a (op_len rfl rfl rfl) rfl rfl ?_
        refine XR_a (op_eql rfl rfl) rfl rfl ?_
        refine XR_a (op_pick_t rfl rfl) rfl rfl ?_
        refine XR_a (op_move rfl) rfl rfl ?_
        refine XR_wa (opl_call (lives07 _) rfl (by kernel_rfl)) rfl rfl rfl ?_
        rintro _ hp3 ⟨rfl, hx3⟩
        refine XR_a (op_pick_t rfl rfl) rfl rfl ?_
        refine XR_a (op_assign rfl) rfl rfl ?_
        refine XR_nil ?_
        refine X_ret (.cons (.tmp rfl) .nil) ?_
        exact ⟨rfl, Ext.trans st.low hx3⟩

/-- How often each byte is there. -/
def bcnt (l : List UInt8) (x : Nat) : Nat := l.countP fun b => b.toNat == x
def bcnts (l : List UInt8) : List Nat := (List.range 256).map (bcnt l)
theorem bcnt_snoc (l : List UInt8) (b : UInt8) (x : Nat) : bcnt (l ++ [b]) x = bcnt l x + if b.toNat = x then 1 else 0 := by
  unfold bcnt
  rw [List.countP_append, List.countP_singleton]; simp
theorem bcnts_set (l : List UInt8) (b : UInt8) : (bcnts l).set b.toNat (bcnt l b.toNat + 1) = bcnts (l ++ [b]) := by
  refine List.ext_getElem (by simp [bcnts]) fun i h1 h2 => ?_
  rw [List.getElem_set]
  by_cases h : b.toNat = i
  · rw [if_pos h]
    simp only [bcnts, List.getElem_map, List.getElem_range]
    rw [bcnt_snoc, if_pos h, h]
  · rw [if_neg h]
    simp only [bcnts, List.getElem_map, List.getElem_range]
    rw [bcnt_snoc, if_neg h, Nat.add_zero]
theorem bcnt_le (l : List UInt8) (x : Nat) : bcnt l x ≤ l.length := List.countP_le_length

theorem wcount_spec {n c : Nat} {A : Option Addr} {l : List UInt8} {h0 : Heap} (hr : Rd h0 A (l.map byteV)) (hl : l.length = n) (hn : n ≤ 17592186044416) :
    Ret Try.prog 35 [.slice A n c] h0 fun v h' => St h0.size h0 h' [row 3 1 v ((bcnts l).map nV)] := by
  refine ret_of_X Try.func35 rfl rfl fun w0 hw0 => ?_
  simp only [argE, Nat.zero_add, Nat.reduceAdd]
  have st := St.start h0
  refine X_seq ?_
  refine X_reg ?_
  refine XR_a (op_assign rfl) rfl rfl ?_
  refine XR_nil ?_
  refine X_seq ?_
  refine X_reg ?_
  refine XR_wa (opl_mk (n := 256) (by omega) rfl rfl rfl) rfl rfl rfl ?_
  rintro v hp hnew
  have st := st.new hnew
  obtain ⟨go, no, co, rfl, _⟩ := st.row0 0 rfl (by rw [List.length_replicate]; omega)
  refine XR_a (op_assign rfl) rfl rfl ?_
  refine XR_nil ?_
  refine X_seq ?_
  refine X_seq ?_
  refine X_reg ?_
  refine XR_a (op_move rfl) rfl rfl ?_
  refine XR_a (op_len rfl rfl rfl) rfl rfl ?_
  refine XR_a (op_move rfl) rfl rfl ?_
  refine XR_nil ?_
  refine X_block ?_
  have hz : List.replicate 256 (Value.int .i64 0) = (bcnts (l.take 0)).map nV := by
    have : bcnts (l.take 0) = List.replicate 256 0 := by rw [List.take_zero]; rfl
    rw [this, List.map_replicate]; rfl
  rw [hz] at st
  have hno : no = 256 := by have := (st.rdS 0 rfl).1; simpa [bcnts] using this.symm
  refine X_loop (fun i => n - i) (fun i => [(3, .slice (some ⟨go, 0, none⟩) no co), (7, .slice A n c), (8, nV n), (9, nV i)])
    (fun (i : Nat) hp => i ≤ n ∧ St h0.size h0 hp [row 3 1 (.slice (some ⟨go, 0, none⟩) no co) ((bcnts (l.take i)).map nV)])
    0 (.cons rfl (.cons rfl (.cons rfl (.cons rfl (.nil _))))) ⟨Nat.zero_le _, st⟩ ?_
  clear st
  rintro i hp ⟨hi, st⟩
  refine X_seq ?_
  refine X_reg ?_
  refine XR_a (op_lss rfl rfl) rfl rfl ?_
  refine XR_nil ?_
  refine X_seq ?_
  refine X_if rfl (fun h => ?_) (fun h => ?_)
  · have hlt : i < l.length := by omega
    obtain ⟨g, o, rfl, hc⟩ := hr.at_ (by rw [List.length_map]; omega)
    have hci := cellH_ext (a := ⟨g, o + i, none⟩) st.low (hc i (byteV l[i]) (by simp [hlt]))
    have hb := l[i].toNat_lt
    have hset := bcnts_set (l.take i) l[i]
    rw [← List.take_succ_eq_append_getElem hlt] at hset
    have hle := bcnt_le (l.take i) l[i].toNat
    rw [List.length_take] at hle
    obtain ⟨_, _, he8, hc8⟩ := (st.rdS 0 rfl).2.at_ (by simp [bcnts])
    cases he8
    have hov := hc8 l[i].toNat (nV (bcnt (l.take i) l[i].toNat)) (by unfold bcnts; simp [hb])
    refine X_skip ?_
    refine X_seq ?_
    refine X_block ?_
    refine X_seq ?_
    refine X_reg ?_
    first | refine XR_a (op_index1 rfl rfl rfl (by omega)) rfl rfl ?_ | refine XR_a (op_index rfl rfl rfl (by omega)) rfl rfl ?_
    refine XR_a (op_ld (hci) rfl rfl rfl) rfl rfl ?_
    refine XR_a (op_assign rfl) rfl rfl ?_
    refine XR_nil ?_
    refine X_reg ?_
    refine XR_a (op_move rfl) rfl rfl ?_
    refine XR_a (op_move rfl) rfl rfl ?_
    refine XR_a (op_index1 (i := l[i].toNat) rfl rfl rfl (by omega)) rfl rfl ?_
    refine XR_a (op_ld (hov) rfl rfl rfl) rfl rfl ?_
    first | refine XR_a (op_addN (n := 1) rfl rfl (by simp only [inK]; omega)) rfl rfl ?_ | refine XR_a (op_addI rfl rfl (by simp only [inK]; omega)) rfl rfl ?_ | refine XR_a (op_add rfl rfl) rfl rfl ?_
    refine XR_a (op_index1 (i := l[i].toNat) rfl rfl rfl (by omega)) rfl rfl ?_
    refine XR_wn (opl_store_row (o := 0) (i := l[i].toNat) (v := nV (bcnt (l.take i) l[i].toNat + 1)) st 0 rfl (congrArg (fun x => some (Value.pointer (some ⟨go, x, none⟩))) (by omega)) rfl (by simp [bcnts]; omega) rfl rfl) rfl rfl fun _ hp st => ?_
    simp only [List.set_cons_zero] at st
    rw [map_set_nV, hset] at st
    refine XR_nil ?_
    refine X_blk ?_
    refine X_reg ?_
    first | refine XR_a (op_addN (n := 1) rfl rfl (by simp only [inK]; omega)) rfl rfl ?_ | refine XR_a (op_addI rfl rfl (by simp only [inK]; omega)) rfl rfl ?_ | refine XR_a (op_add rfl rfl) rfl rfl ?_
    refine XR_a (op_move rfl) rfl rfl ?_
    refine XR_nil ?_
    exact X_again (i + 1) (.cons rfl (.cons rfl (.cons rfl (.cons rfl (.nil _))))) ⟨by omega, st⟩ (by omega)
  · refine X_exit rfl ?_
    refine X_seq ?_
    refine X_reg ?_
    refine XR_a (op_move rfl) rfl rfl ?_
    refine XR_a (op_assign rfl) rfl rfl ?_
    refine XR_nil ?_
    refine X_ret (.cons (.tmp rfl) .nil) ?_
    rw [List.take_of_length_le (by omega)] at st
    exact st

theorem weighCounts_ret {n c x : Nat} {A : Option Addr} {l : List UInt8} {h0 : Heap} (hr : Rd h0 A (l.map byteV)) (hl : l.length = n) (hn : n ≤ 1407374883553280) (hx : x < 256) :
    Ret Try.prog 8 [.slice A n c, .int .u8 (x : Int)] h0 fun v h' => v = .bool true ∧ Ext h0 h' := by
  refine ret_of_X Try.func8 rfl rfl fun w0 hw0 => ?_
  simp only [argE, Nat.zero_add, Nat.reduceAdd]
  refine X_seq ?_
  refine X_reg ?_
  refine XR_a (op_assign rfl) rfl rfl ?_
  refine XR_nil ?_
  refine X_seq ?_
  refine X_seq ?_
  refine X_reg ?_
  refine XR_a (op_move rfl) rfl rfl ?_
  refine XR_a (op_len rfl rfl rfl) rfl rfl ?_
  refine XR_a (op_gtr rfl rfl) rfl rfl ?_
  refine XR_nil ?_
  refine X_if rfl (fun h => ?_) (fun h => ?_)
  · refine X_seq ?_
    refine X_reg ?_
    refine XR_wa (opl_call (lives07 h0) rfl (by kernel_rfl)) rfl rfl rfl ?_
    rintro _ hp ⟨rfl, hx⟩
    refine XR_a (op_assign rfl) rfl rfl ?_
    refine XR_nil ?_
    refine X_ret (.cons (.tmp rfl) .nil) ?_
    exact ⟨rfl, hx⟩
  · refine X_skip ?_
    refine X_seq ?_
    refine X_reg ?_
    refine XR_a (op_assign rfl) rfl rfl ?_
    refine XR_nil ?_
    refine X_seq ?_
    refine X_seq ?_
    refine X_reg ?_
    refine XR_a (op_assign rfl) rfl rfl ?_
    refine XR_nil ?_
    refine X_block ?_
    refine X_loop (fun i => n - i) (fun i => [(0, .slice A n c), (1, .int .u8 (x : Int)), (5, nV (bcnt (l.take i) x)), (6, nV i)])
      (fun (i : Nat) hp => i ≤ n ∧ h0 = hp)
      0 (.cons rfl (.cons rfl (.cons rfl (.cons rfl (.nil _))))) ⟨Nat.zero_le _, rfl⟩ ?_
    rintro i hp ⟨hi, rfl⟩
    refine X_seq ?_
    refine X_seq ?_
    refine X_reg ?_
    refine XR_a (op_move rfl) rfl rfl ?_
    refine XR_a (op_move rfl) rfl rfl ?_
    refine XR_a (op_len rfl rfl rfl) rfl rfl ?_
    refine XR_a (op_lss rfl rfl) rfl rfl ?_
    refine XR_nil ?_
    refine X_if rfl (fun h => ?_) (fun h => ?_)
    · have hlt : i < l.length := by omega
      obtain ⟨g, o, rfl, hc⟩ := hr.at_ (by rw [List.length_map]; omega)
      have hci := hc i (byteV l[i]) (by simp [hlt])
      have hbs := bcnt_snoc (l.take i) l[i] x
      rw [← List.take_succ_eq_append_getElem hlt] at hbs
      have hle := bcnt_le (l.take i) x
      rw [List.length_take] at hle
      refine X_skip ?_
      refine X_seq ?_
      refine X_block ?_
      refine X_seq ?_
      refine X_reg ?_
      refine XR_a (op_move rfl) rfl rfl ?_
      refine XR_a (op_move rfl) rfl rfl ?_
      first | refine XR_a (op_index1 rfl rfl rfl (by omega)) rfl rfl ?_ | refine XR_a (op_index rfl rfl rfl (by omega)) rfl rfl ?_
      refine XR_a (op_ld (hci) rfl rfl rfl) rfl rfl ?_
      refine XR_a (op_move rfl) rfl rfl ?_
      refine XR_a (op_eql rfl rfl) rfl rfl ?_
      refine XR_nil ?_
      refine X_if rfl (fun h => ?_) (fun h => ?_)
      · refine X_reg ?_
        refine XR_a (op_move rfl) rfl rfl ?_
        first | refine XR_a (op_addN (n := 1) rfl rfl (by simp only [inK]; omega)) rfl rfl ?_ | refine XR_a (op_addI rfl rfl (by simp only [inK]; omega)) rfl rfl ?_ | refine XR_a (op_add rfl rfl) rfl rfl ?_
        refine XR_a (op_assign rfl) rfl rfl ?_
        refine XR_nil ?_
        refine X_blk ?_
        refine X_reg ?_
        refine XR_a (op_move rfl) rfl rfl ?_
        first | refine XR_a (op_addN (n := 1) rfl rfl (by simp only [inK]; omega)) rfl rfl ?_ | refine XR_a (op_addI rfl rfl (by simp only [inK]; omega)) rfl rfl ?_ | refine XR_a (op_add rfl rfl) rfl rfl ?_
        refine XR_a (op_assign rfl) rfl rfl ?_
        refine XR_nil ?_
        rw [if_pos (by omega)] at hbs
        exact X_again (i + 1) (.cons rfl (.cons rfl (.cons (by rw [hbs]; rfl) (.cons rfl (.nil _))))) ⟨by omega, rfl⟩ (by omega)
      · refine X_skip ?_
        refine X_blk ?_
        refine X_reg ?_
        refine XR_a (op_move rfl) rfl rfl ?_
        first | refine XR_a (op_addN (n := 1) rfl rfl (by simp only [inK]; omega)) rfl rfl ?_ | refine XR_a (op_addI rfl rfl (by simp only [inK]; omega)) rfl rfl ?_ | refine XR_a (op_add rfl rfl) rfl rfl ?_
        refine XR_a (op_assign rfl) rfl rfl ?_
        refine XR_nil ?_
        rw [if_neg (by omega), Nat.add_zero] at hbs
        exact X_again (i + 1) (.cons rfl (.cons rfl (.cons (by rw [hbs]; rfl) (.cons rfl (.nil _))))) ⟨by omega, rfl⟩ (by omega)
    · rw [List.take_of_length_le (by omega)]
      refine X_exit rfl ?_
      refine X_seq ?_
      refine X_reg ?_
      refine XR_a (op_move rfl) rfl rfl ?_
      refine XR_wa (opl_call (wcount_spec hr hl (by omega)) rfl (by kernel_rfl)) rfl rfl rfl ?_
      rintro w hp1 st
      obtain ⟨g3, n3, c3, rfl, hl3, _⟩ := st.row0 0 rfl (by simp [bcnts])
      obtain rfl : n3 = 256 := by simpa [bcnts] using hl3.symm
      obtain ⟨_, _, he8, hc8⟩ := (st.rdS 0 rfl).2.at_ (by simp [bcnts])
      cases he8
      have hov := hc8 x (nV (bcnt l x)) (by unfold bcnts; simp [hx])
      refine XR_a (op_assign rfl) rfl rfl ?_
      refine XR_nil ?_
      refine X_seq ?_
      refine X_reg ?_
      refine XR_a (op_move rfl) rfl rfl ?_
      refine XR_a (op_len rfl rfl rfl) rfl rfl ?_
      refine XR_a (op_eql rfl rfl) rfl rfl ?_
      refine XR_a (op_move rfl) rfl rfl ?_
      refine XR_a (op_move rfl) rfl rfl ?_
      refine XR_a (op_move rfl) rfl rfl ?_
      first | refine XR_a (op_index1 rfl rfl rfl (by omega)) rfl rfl ?_ | refine XR_a (op_index rfl rfl rfl (by omega)) rfl rfl ?_
      refine XR_a (op_ld (hov) rfl rfl rfl) rfl rfl ?_
      refine XR_a (op_move rfl) rfl rfl ?_
      refine XR_a (op_eql rfl rfl) rfl rfl ?_
      refine XR_as (.bool true) (congrArg Value.bool (decide_eq_true rfl)) ?_
      refine XR_a (op_pick_t rfl rfl) rfl rfl ?_
      refine XR_a (op_move rfl) rfl rfl ?_
      refine XR_wa (opl_call (lives07 _) rfl (by kernel_rfl)) rfl rfl rfl ?_
      rintro _ hp2 ⟨rfl, hx2⟩
      refine XR_a (op_pick_t rfl rfl) rfl rfl ?_
      refine XR_a (op_assign rfl) rfl rfl ?_
      refine XR_nil ?_
      refine X_ret (.cons (.tmp rfl) .nil) ?_
      exact ⟨rfl, Ext.trans st.low hx2⟩
end Go.Bn
