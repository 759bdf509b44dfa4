/- The contracts of quick's functions: numbers, codes, fill. -/
import Derived.Test.YtnphdfaihpljlaaProg
import Derived.Test.YtnphdfaihpljlaaCanon3
import Derived.Test.YtnphdfaihpljlaaPQuick
import Derived.Test.YtnphdfaihpljlaaOpsM
import Derived.Test.YtnphdfaihpljlaaFlat
set_option linter.unusedVariables false
set_option linter.unusedSimpArgs false
set_option maxHeartbeats 4000000
set_option maxRecDepth 20000
namespace Go.Bn
open Go Proofs

def cutI (n low high : Int) : Int := max low (min n high)
theorem cut_spec (n low high : Int) (h0 : Heap) : Ret Try.prog 72 [.int .i64 n, .int .i64 low, .int .i64 high] h0 fun v h' => v = .int .i64 (cutI n low high) ∧ h0 = h' := by
  refine ret_of_X Try.func72 rfl rfl fun w0 hw0 => ?_
  simp only [argE, Nat.zero_add, Nat.reduceAdd]
  refine X_seq ?_
  refine X_reg ?_
  refine XR_a (op_assign rfl) rfl rfl ?_
  refine XR_nil ?_
  refine X_seq ?_
  refine X_reg ?_
  refine XR_a (op_move rfl) rfl rfl ?_
  refine XR_a (op_move rfl) rfl rfl ?_
  refine XR_a (op_move rfl) rfl rfl ?_
  refine XR_a (op_min2 rfl rfl) rfl rfl ?_
  refine XR_a (op_max2 rfl rfl) rfl rfl ?_
  refine XR_a (op_assign rfl) rfl rfl ?_
  refine XR_nil ?_
  refine X_ret (.cons (.tmp rfl) .nil) ?_
  exact ⟨rfl, rfl⟩
theorem cut15 (n : Int) : cutI n 0 15 = (wd 15 n : Nat) := by unfold cutI wd; omega

theorem tval_bit (l : List Bool) (b : Int) (h : b = 0 ∨ b = 1) : tval (l ++ [b == 1]) = tval l * 2 + b.toNat := by
  rw [tval_snoc]
  rcases h with rfl | rfl <;> rfl
theorem ediv_succ (x : Int) (k : Nat) : x / 2 ^ (k + 1) = x / 2 ^ k / 2 := by
  rw [Int.pow_succ, Int.ediv_ediv_of_nonneg (Int.le_of_lt (Int.pow_pos (by omega)))]
theorem turn_spec (n many : Int) (h0 : Heap) (hn : inK .i64 n) : Ret Try.prog 33 [.int .i64 n, .int .i64 many] h0 fun v h' => v = .int .i64 (turnI n (wd 15 many) : Nat) ∧ h0 = h' := by
  have hw := wd_le 15 many
  refine ret_of_X Try.func33 rfl rfl fun w0 hw0 => ?_
  simp only [argE, Nat.zero_add, Nat.reduceAdd]
  refine X_seq ?_
  refine X_reg ?_
  refine XR_a (op_assign rfl) rfl rfl ?_
  refine XR_nil ?_
  refine X_seq ?_
  refine X_reg ?_
  refine XR_a (op_assign rfl) rfl rfl ?_
  refine XR_nil ?_
  refine X_seq ?_
  refine X_seq ?_
  refine X_reg ?_
  refine XR_a (op_move rfl) rfl rfl ?_
  refine XR_wa (opl_call (cut_spec many 0 15 _) rfl (by kernel_rfl)) rfl rfl rfl ?_
  rintro _ _ ⟨rfl, rfl⟩
  rw [cut15]
  refine XR_a (op_move rfl) rfl rfl ?_
  refine XR_nil ?_
  refine X_block ?_
  obtain ⟨k, hk⟩ : ∃ k, wd 15 many = k := ⟨_, rfl⟩
  rw [hk] at hw ⊢
  refine X_loop (fun i => k - i) (fun i => [(0, .int .i64 (n / 2 ^ i)), (5, .int .i64 (turnI n i : Nat)), (7, .int .i64 (k : Nat)), (8, .int .i64 (i : Nat))])
    (fun (i : Nat) hp => hp = h0 ∧ i ≤ k)
    0 (.cons (by rw [Int.pow_zero, Int.ediv_one]; rfl) (.cons rfl (.cons rfl (.cons rfl (.nil _))))) ⟨rfl, by omega⟩ ?_
  rintro i hp ⟨rfl, hi⟩
  refine X_seq ?_
  refine X_reg ?_
  refine XR_a (op_lss rfl rfl) rfl rfl ?_
  refine XR_nil ?_
  refine X_seq ?_
  refine X_if rfl (fun h => ?_) (fun h => ?_)
  · have hlt := turnI_lt n i
    have hpw : 2 ^ i ≤ 32768 := Nat.pow_le_pow_right (n := 2) (by omega) (show i ≤ 15 by omega)
    have h01 : n / 2 ^ i % 2 = 0 ∨ n / 2 ^ i % 2 = 1 := by omega
    have hts : turnI n (i + 1) = turnI n i * 2 + (n / 2 ^ i % 2).toNat := tval_bit _ _ h01
    obtain ⟨y, hy⟩ : ∃ y : Nat, n / 2 ^ i % 2 = y := ⟨(n / 2 ^ i % 2).toNat, by omega⟩
    rw [hy] at hts h01
    rw [Int.toNat_natCast] at hts
    refine X_skip ?_
    refine X_seq ?_
    refine X_block ?_
    refine X_seq ?_
    refine X_reg ?_
    refine XR_a (op_move rfl) rfl rfl ?_
    first | refine XR_a (op_shlC 1 rfl rfl (by decide) (by simp only [inK]; omega)) rfl rfl ?_ | refine XR_a (op_shlI 1 rfl rfl (by decide) (by simp only [inK]; omega)) rfl rfl ?_ | refine XR_a (op_shlN 1 rfl rfl (by decide)) rfl rfl ?_
    refine XR_a (op_move rfl) rfl rfl ?_
    refine XR_a (op_and1 rfl rfl) rfl rfl ?_
    refine XR_as (.int .i64 (y : Int)) (by rw [hy]) ?_
    refine XR_a (op_orS (m := turnI n i * 2) (n := y) rfl rfl (by omega) (by omega)) rfl rfl ?_
    refine XR_as (.int .i64 (turnI n (i + 1) : Nat)) (by rw [or_even _ _ (by omega), hts]) ?_
    refine XR_a (op_assign rfl) rfl rfl ?_
    refine XR_nil ?_
    refine X_reg ?_
    refine XR_a (op_move rfl) rfl rfl ?_
    first | refine XR_a (op_shrC 1 rfl rfl (by decide)) rfl rfl ?_ | refine XR_a (op_shrN 1 rfl rfl (by decide)) rfl rfl ?_
    refine XR_as (.int .i64 (n / 2 ^ (i + 1))) (by rw [ediv_succ n i]; rfl) ?_
    refine XR_a (op_assign rfl) rfl rfl ?_
    refine XR_nil ?_
    refine X_blk ?_
    refine X_reg ?_
    first | refine XR_a (op_addN (n := 1) rfl rfl (by simp only [inK]; omega)) rfl rfl ?_ | refine XR_a (op_addI rfl rfl (by simp only [inK]; omega)) rfl rfl ?_ | refine XR_a (op_add rfl rfl) rfl rfl ?_
    refine XR_a (op_move rfl) rfl rfl ?_
    refine XR_nil ?_
    exact X_again (i + 1) (.cons rfl (.cons rfl (.cons rfl (.cons rfl (.nil _))))) ⟨rfl, by omega⟩ (by omega)
  · refine X_exit rfl ?_
    refine X_seq ?_
    refine X_reg ?_
    refine XR_a (op_move rfl) rfl rfl ?_
    refine XR_a (op_assign rfl) rfl rfl ?_
    refine XR_nil ?_
    refine X_ret (.cons (.tmp rfl) .nil) ?_
    obtain rfl : i = k := by omega
    exact ⟨rfl, rfl⟩

@[reducible] def cC (c : QC) : List Value := [nV c.1, nV c.2.1, nV c.2.2]
@[reducible] def rC (r : QR) : List Value := [nV r.1, nV r.2.1, .bool r.2.2]
def cellsR (R : Nat → QR) (n : Nat) : List Value := (List.range n).flatMap fun m => rC (R m)
theorem cellsR_len (R : Nat → QR) (n : Nat) : (cellsR R n).length = n * 3 := by
  unfold cellsR; rw [flat_length _ 3 (fun _ => rfl), List.length_range]
theorem cellsR_get (R : Nat → QR) {n m j : Nat} (hm : m < n) (hj : j < 3) : (cellsR R n)[m * 3 + j]? = (rC (R m))[j]? := by
  unfold cellsR
  rw [flat_get _ 3 (fun _ => rfl) _ _ _ (by rw [List.length_range]; exact hm) hj, List.getElem_range]
theorem cellsR_congr {R R' : Nat → QR} {n : Nat} (h : ∀ m, m < n → R m = R' m) : cellsR R n = cellsR R' n := by
  unfold cellsR
  rw [List.flatMap_def, List.flatMap_def]
  congr 1
  exact List.map_congr_left fun m hm => by rw [h m (List.mem_range.1 hm)]
theorem cellsR_zero (n : Nat) : (List.replicate n [Value.int .i64 0, .int .i64 0, .bool false]).flatten = cellsR (fun _ => zeroQ) n := by
  unfold cellsR
  rw [List.flatMap_def, List.map_const', List.length_range]; rfl
theorem cellsR_set (R : Nat → QR) {n m : Nat} (hm : m < n) (r : QR) : (cellsR R n).take (m * 3) ++ rC r ++ (cellsR R n).drop (m * 3 + 3) = cellsR (fun i => if i = m then r else R i) n := by
  have hl := cellsR_len R n
  apply List.ext_getElem?
  intro q
  obtain ⟨i, j, hj, rfl⟩ : ∃ i j, j < 3 ∧ q = i * 3 + j := ⟨q / 3, q % 3, Nat.mod_lt _ (by omega), by omega⟩
  rw [List.append_assoc]
  by_cases h1 : i < m
  · rw [List.getElem?_append_left (by rw [List.length_take]; omega), List.getElem?_take, if_pos (by omega), cellsR_get _ (by omega) hj, cellsR_get _ (by omega) hj, if_neg (by omega)]
  · by_cases h2 : i = m
    · subst h2
      rw [List.getElem?_append_right (by rw [List.length_take]; omega), List.length_take, Nat.min_eq_left (by omega), Nat.add_sub_cancel_left, List.getElem?_append_left (by simpa using hj), cellsR_get _ hm hj, if_pos rfl]
    · rw [List.getElem?_append_right (by rw [List.length_take]; omega), List.length_take, Nat.min_eq_left (by omega), List.getElem?_append_right (by simp; omega), List.getElem?_drop]
      rw [show m * 3 + 3 + (i * 3 + j - m * 3 - (rC r).length) = i * 3 + j by simp; omega]
      by_cases h3 : i < n
      · rw [cellsR_get _ h3 hj, cellsR_get _ h3 hj, if_neg h2]
      · rw [List.getElem?_eq_none (by rw [cellsR_len]; omega), List.getElem?_eq_none (by rw [cellsR_len]; omega)]
theorem one_rC (r : QR) : ∀ u ∈ rC r, Value.one u = true := by
  intro u hu
  simp only [rC, List.mem_cons, List.not_mem_nil, or_false] at hu
  rcases hu with rfl | rfl | rfl <;> rfl
theorem one_cC (c : QC) : ∀ u ∈ cC c, Value.one u = true := by
  intro u hu
  simp only [cC, List.mem_cons, List.not_mem_nil, or_false] at hu
  rcases hu with rfl | rfl | rfl <;> rfl

theorem codes_spec {n c : Nat} {A : Option Addr} {li : List Int} {h0 : Heap} (hr : Rd h0 A (li.map iV)) (hl : li.length = n) (hn : n ≤ 17592186044416) :
    Ret Try.prog 73 [.slice A n c] h0 fun v h' =>
      ∃ w, v = retVal [w, .int .i64 (errC li)] ∧ Ext h0 h' ∧ (rightC li → St h0.size h0 h' [row 111 3 w ((qcodes (li.map Int.toNat)).flatMap cC)]) ∧ (¬ rightC li → w = .slice none 0 0) := by
  refine ret_of_X Try.func73 rfl rfl fun w0 hw0 => ?_
  simp only [argE, Nat.zero_add, Nat.reduceAdd]
  refine X_seq ?_
  refine X_reg ?_
  refine XR_a (op_assign rfl) rfl rfl ?_
  refine XR_a (op_assign rfl) rfl rfl ?_
  refine XR_nil ?_
  refine X_seq ?_
  refine X_reg ?_
  refine XR_a (op_move rfl) rfl rfl ?_
  refine XR_wa (opl_call (cvalues_spec hr hl hn) rfl (by kernel_rfl)) rfl rfl rfl ?_
  rintro _ hp ⟨w, rfl, hx, hy, hz⟩
  refine XR_a (op_move rfl) rfl rfl ?_
  refine XR_a (op_extract rfl rfl) rfl rfl ?_
  refine XR_a (op_extract rfl rfl) rfl rfl ?_
  refine XR_a (op_assign rfl) rfl rfl ?_
  refine XR_a (op_assign rfl) rfl rfl ?_
  refine XR_nil ?_
  refine X_seq ?_
  refine X_seq ?_
  refine X_reg ?_
  refine XR_a (op_move rfl) rfl rfl ?_
  refine XR_a (op_neq rfl rfl) rfl rfl ?_
  refine XR_nil ?_
  refine X_if rfl (fun h => ?_) (fun h => ?_)
  · refine X_seq ?_
    refine X_reg ?_
    refine XR_a (op_move rfl) rfl rfl ?_
    refine XR_a (op_assign rfl) rfl rfl ?_
    refine XR_a (op_assign rfl) rfl rfl ?_
    refine XR_nil ?_
    refine X_ret (.cons (.tmp rfl) (.cons (.tmp rfl) .nil)) ?_
    have hR : ¬ rightC li := fun hh => h (errC_zero.2 hh)
    exact ⟨_, rfl, hx, fun hh => absurd hh hR, fun _ => rfl⟩
  · have hR : rightC li := errC_zero.1 (Decidable.not_not.1 h)
    have st := hy hR
    have hok := hR.ok
    have hr2 : Rd h0 A ((li.map Int.toNat).map nV) := by rw [nV_iV, toNat_map fun x hx => (hR.2.1.2 x hx).1]; exact hr
    have hl2 : (li.map Int.toNat).length = n := by rw [List.length_map]; exact hl
    obtain ⟨ls, hl3⟩ : ∃ ls, li.map Int.toNat = ls := ⟨_, rfl⟩
    rw [hl3] at hok hr2 hl2 st ⊢
    have h320 := hok.2.1
    have h1n := hok.1
    refine X_skip ?_
    refine X_seq ?_
    refine X_reg ?_
    refine XR_a (op_assign rfl) rfl rfl ?_
    refine XR_nil ?_
    refine X_seq ?_
    refine X_seq ?_
    refine X_reg ?_
    refine XR_a (op_move rfl) rfl rfl ?_
    refine XR_a (op_len rfl rfl rfl) rfl rfl ?_
    refine XR_a (op_move rfl) rfl rfl ?_
    refine XR_nil ?_
    refine X_block ?_
    replace st := (st.nilrow 111 3).perm (List.Perm.swap _ _ _)
    obtain ⟨g, o, rfl, hc⟩ := hr2.at_ (by rw [List.length_map]; omega)
    refine X_loop (fun s => n - s.1) (fun s => [(0, .slice (some ⟨g, o, none⟩) n c), (4, w), (6, s.2), (17, .slice (some ⟨g, o, none⟩) n c), (18, .int .i64 (n : Nat)), (19, .int .i64 (s.1 : Nat))])
      (fun (s : Nat × Value) hp => St h0.size h0 hp [row 3 1 w ((vals ls).map nV), row 111 3 s.2 ((codesTo ls s.1).flatMap cC)] ∧ s.1 ≤ n)
      (0, .slice none 0 0) (.cons rfl (.cons rfl (.cons rfl (.cons rfl (.cons rfl (.cons rfl (.nil _))))))) ⟨st, by simp⟩ ?_
    clear st hy hx
    rintro ⟨i, w2⟩ hp ⟨st, hi⟩
    simp only at st hi ⊢
    refine X_seq ?_
    refine X_reg ?_
    refine XR_a (op_lss rfl rfl) rfl rfl ?_
    refine XR_nil ?_
    refine X_seq ?_
    refine X_if rfl (fun h => ?_) (fun h => ?_)
    · have hlt : i < ls.length := by omega
      have hci := cellH_ext (a := ⟨g, o + i, none⟩) st.low (hc i (nV ls[i]) (by simp [hlt]))
      have hcs := codesTo_succ ls i
      have hcl := codesTo_len ls i
      have h15 := hok.2.2.1 ls[i] (List.getElem_mem hlt)
      refine X_skip ?_
      refine X_seq ?_
      refine X_block ?_
      refine X_seq ?_
      refine X_reg ?_
      refine XR_a (op_move rfl) rfl rfl ?_
      first | refine XR_a (op_index1 rfl rfl rfl (by omega)) rfl rfl ?_ | refine XR_a (op_index rfl rfl rfl (by omega)) rfl rfl ?_
      refine XR_a (op_ld (hci) rfl rfl rfl) rfl rfl ?_
      refine XR_a (op_assign rfl) rfl rfl ?_
      refine XR_a (op_assign rfl) rfl rfl ?_
      refine XR_nil ?_
      refine X_seq ?_
      refine X_reg ?_
      refine XR_a (op_move rfl) rfl rfl ?_
      refine XR_a (op_gtr rfl rfl) rfl rfl ?_
      refine XR_nil ?_
      refine X_if rfl (fun h => ?_) (fun h => ?_)
      · have h0 : ls[i] ≠ 0 := by omega
        have e : codeOf ls i = [(i, turnV (val ls i) ls[i], ls[i])] := by unfold codeOf; rw [getD_get hlt, if_neg h0]
        rw [e] at hcs
        have hv := val_lt hok hlt h0
        have hv2 := fst_bd hok h15
        have hvi : (vals ls)[i]? = some (val ls i) := by simp [vals, hlt]
        obtain ⟨A7, n7, c7, rfl, hlen7, _, _, hrd7⟩ := st.row 0 rfl
        rw [List.length_map, vals_length] at hlen7
        obtain ⟨g7, o7, rfl, hc7⟩ := hrd7.at_ (by rw [List.length_map, vals_length]; omega)
        have hwd : wd 15 (ls[i] : Int) = ls[i] := by unfold wd; omega
        refine X_reg ?_
        refine XR_a (op_move rfl) rfl rfl ?_
        refine XR_a (op_move rfl) rfl rfl ?_
        refine XR_a (op_move rfl) rfl rfl ?_
        refine XR_a (op_move rfl) rfl rfl ?_
        first | refine XR_a (op_index1 rfl rfl rfl (by omega)) rfl rfl ?_ | refine XR_a (op_index rfl rfl rfl (by omega)) rfl rfl ?_
        refine XR_a (op_ld (hc7 i _ (map_get_nV hvi)) rfl rfl rfl) rfl rfl ?_
        refine XR_a (op_move rfl) rfl rfl ?_
        refine XR_wa (opl_call (turn_spec (val ls i : Int) (ls[i] : Int) _ (by simp only [inK]; omega)) rfl (by kernel_rfl)) rfl rfl rfl ?_
        rintro _ _ ⟨rfl, rfl⟩
        rw [hwd, show turnI (val ls i : Int) ls[i] = turnV (val ls i) ls[i] from rfl]
        refine XR_a (op_move rfl) rfl rfl ?_
        refine XR_a (op_build (ps := [(0, nV i), (1, nV (turnV (val ls i) ls[i])), (2, nV ls[i])]) (cs := (cC (i, turnV (val ls i) ls[i], ls[i])).toArray) rfl rfl) rfl rfl ?_
        refine XR_wa (opl_varA (us := cC (i, turnV (val ls i) ls[i], ls[i])) rfl rfl rfl rfl (by kernel_rfl)) rfl rfl rfl ?_
        rintro _ hp ⟨A, rfl, hx, hrd⟩
        replace st := st.ext hx
        refine XR_wa (opl_append st 1 rfl (hrd) (rfl) (one_cC _) (by rw [flat_length _ 3 (fun _ => rfl)]; simp; omega) rfl rfl rfl rfl rfl rfl rfl) rfl rfl rfl fun v hp st => ?_
        simp only [List.set_cons_zero, List.set_cons_succ] at st
        have e2 : (codesTo ls i).flatMap cC ++ cC (i, turnV (val ls i) ls[i], ls[i]) = (codesTo ls (i + 1)).flatMap cC := by rw [hcs, List.flatMap_append]; simp
        rw [e2] at st
        refine XR_a (op_assign rfl) rfl rfl ?_
        refine XR_nil ?_
        refine X_blk ?_
        refine X_reg ?_
        first | refine XR_a (op_addN (n := 1) rfl rfl (by simp only [inK]; omega)) rfl rfl ?_ | refine XR_a (op_addI rfl rfl (by simp only [inK]; omega)) rfl rfl ?_ | refine XR_a (op_add rfl rfl) rfl rfl ?_
        refine XR_a (op_move rfl) rfl rfl ?_
        refine XR_nil ?_
        exact X_again (i + 1, _) (.cons rfl (.cons rfl (.cons rfl (.cons rfl (.cons rfl (.cons rfl (.nil _))))))) ⟨st, by simp only; omega⟩ (by simp only; omega)
      · refine X_skip ?_
        refine X_blk ?_
        refine X_reg ?_
        first | refine XR_a (op_addN (n := 1) rfl rfl (by simp only [inK]; omega)) rfl rfl ?_ | refine XR_a (op_addI rfl rfl (by simp only [inK]; omega)) rfl rfl ?_ | refine XR_a (op_add rfl rfl) rfl rfl ?_
        refine XR_a (op_move rfl) rfl rfl ?_
        refine XR_nil ?_
        have h0 : ls[i] = 0 := by omega
        have e : codeOf ls i = [] := by unfold codeOf; rw [getD_get hlt, if_pos h0]
        rw [e, List.append_nil] at hcs
        rw [← hcs] at st
        exact X_again (i + 1, w2) (.cons rfl (.cons rfl (.cons rfl (.cons rfl (.cons rfl (.cons rfl (.nil _))))))) ⟨st, by simp only; omega⟩ (by simp only; omega)
    · refine X_exit rfl ?_
      refine X_seq ?_
      refine X_reg ?_
      refine XR_a (op_move rfl) rfl rfl ?_
      refine XR_a (op_assign rfl) rfl rfl ?_
      refine XR_a (op_assign rfl) rfl rfl ?_
      refine XR_nil ?_
      refine X_ret (.cons (.tmp rfl) (.cons (.tmp rfl) .nil)) ?_
      obtain rfl : i = n := by omega
      refine ⟨_, by rw [errC_zero.2 hR], st.low, fun _ => ?_, fun hh => absurd hR hh⟩
      unfold qcodes
      rw [hl2]
      exact st.tail
end Go.Bn
