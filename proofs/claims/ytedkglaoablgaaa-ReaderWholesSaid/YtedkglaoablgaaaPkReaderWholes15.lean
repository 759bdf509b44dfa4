/- a reader tells whole what was given -/
import Derived.Test.YtedkglaoablgaaaRows
import Derived.WalkKit
import Derived.Test.YtedkglaoablgaaaPkReaderWholes11
import Derived.Test.YtedkglaoablgaaaPkReaderWholes14
section
set_option linter.unusedVariables false
set_option linter.unusedSimpArgs false
set_option maxHeartbeats 4000000
set_option maxRecDepth 20000
namespace Go.Bn
open Go Proofs
theorem pieces36_ref {m c size : Nat} {A : Option Addr} {l : List UInt8} {h0 : Heap} (hr : Rd h0 A (l.map byteV)) (hl : l.length = m) (hm : m ≤ 131072) (hmc : m ≤ c) (hs : size ≤ 65536) :
    Ret Try.prog 45 [.slice A m c, nV size] h0 fun v h' => ∃ w gE gB, v = .agg (gC 0 w gE).toArray ∧ Giv (mvS l size) 0 [] gB gE ∧ St h0.size h0 h' [row 5 1 w (gB.map byteV)] := by
  obtain ⟨mv, hmv⟩ : ∃ mv, mvS l size = mv := ⟨_, rfl⟩
  rw [hmv]
  refine ret_of_X Try.func45 rfl rfl fun w0 hw0 => ?_
  simp only [argE, Nat.zero_add, Nat.reduceAdd]
  have st := St.start h0
  refine X_seq ?_
  refine X_reg ?_
  refine XR_wa (opl_new rfl) rfl rfl rfl ?_
  rintro _ hp ⟨p4, rfl, hnew⟩
  replace st := st.new hnew
  refine XR_nil ?_
  refine X_seq ?_
  refine X_reg ?_
  refine XR_wa (opl_new rfl) rfl rfl rfl ?_
  rintro _ hp ⟨p5, rfl, hnew⟩
  replace st := st.new hnew
  replace st : St h0.size h0 hp [pt p5 30 (gC 0 (.slice none 0 0) 0), pt p4 30 (gC 0 (.slice none 0 0) 0)] := st
  refine XR_nil ?_
  refine X_seq ?_
  refine X_reg ?_
  refine XR_a (op_assign rfl) rfl rfl ?_
  refine XR_nil ?_
  refine X_block ?_
  replace st := (st.nilrow 5 1).re 3 [1, 0, 2] (by decide)
  simp only [List.map_cons, List.map_nil, getR] at st
  refine X_loop (fun s => m - s.1) (fun s => [(0, .slice A m c), (1, nV size), (4, .pointer (some ⟨p4, 0, none⟩)), (5, .pointer (some ⟨p5, 0, none⟩)), (6, nV s.1)])
    (fun (s : Nat × List UInt8 × Value) hp => s.1 ≤ m ∧ s.2.1.length ≤ size ∧ (∀ gB gE, Giv mv s.1 s.2.1 gB gE → Giv mv 0 [] gB gE) ∧
      St h0.size h0 hp [pt p5 30 (gC 0 s.2.2 0), row 5 1 s.2.2 (s.2.1.map byteV), pt p4 30 (gC 0 (.slice none 0 0) 0)])
    (0, [], _) (.cons rfl (.cons rfl (.cons rfl (.cons rfl (.cons rfl (.nil _)))))) ⟨Nat.zero_le _, Nat.zero_le _, fun _ _ g => g, st⟩ ?_
  clear st
  rintro ⟨a, out, v⟩ hp ⟨han, hos, hgv, st⟩
  simp only at han hos hgv st ⊢
  obtain ⟨A9, n9, c9, rfl, hl9, _⟩ := st.row 1 rfl
  have hl9 : out.length = n9 := by simpa using hl9
  have hM : mv a out = mvS l size a out := by rw [hmv]
  unfold mvS at hM
  rw [hl] at hM
  have hover : ∀ e, mv a out = (a, out, true, e) → Giv mv 0 [] out e := fun e he => by
    have := hgv _ _ (Giv.over (mv := mv) (a := a) (out := out) (by rw [he]))
    rwa [he] at this
  refine X_block ?_
  refine X_seq ?_
  refine X_seq ?_
  refine X_reg ?_
  refine XR_a (op_move rfl) rfl rfl ?_
  refine XR_a (op_len rfl rfl rfl) rfl rfl ?_
  refine XR_a (op_move rfl) rfl rfl ?_
  first | refine XR_a (op_subN rfl rfl (by omega) (by simp only [inK]; omega)) rfl rfl ?_ | refine XR_a (op_subI rfl rfl (by simp only [inK]; omega)) rfl rfl ?_ | refine XR_a (op_sub rfl rfl) rfl rfl ?_
  refine XR_a (op_lss rfl rfl) rfl rfl ?_
  refine XR_nil ?_
  refine X_if rfl (fun h => ?_) (fun h => ?_)
  · rw [if_pos (by omega)] at hM
    have hgf := hover _ hM
    refine X_seq ?_
    refine X_reg ?_
    first | refine XR_a (op_field0 rfl rfl) rfl rfl ?_ | refine XR_a (op_fieldn rfl rfl) rfl rfl ?_
    refine XR_wn (opl_store_pt st 0 rfl rfl rfl rfl rfl (rfl)) rfl rfl fun _ hp st => ?_
    simp only [List.set_cons_zero, List.set_cons_succ] at st
    refine XR_nil ?_
    refine X_seq ?_
    refine X_reg ?_
    refine XR_a (op_ldA (vs := gC 0 (.slice A9 n9 c9) 2) (st.cells 0 rfl) rfl rfl rfl rfl) rfl rfl ?_
    refine XR_wn (opl_store_whole (us := gC 0 (.slice A9 n9 c9) 2) st 2 rfl rfl rfl rfl rfl (gC_one rfl) rfl) rfl rfl fun _ hp st => ?_
    simp only [List.set_cons_zero, List.set_cons_succ] at st
    refine XR_nil ?_
    refine X_ret (.cons (RV_agg (vs := gC _ _ _) rfl rfl rfl (st.cells 2 rfl)) .nil) ?_
    exact ⟨_, _, out, rfl, hgf, (st.re 3 [1, 0, 2] (by decide)).keep 1⟩
  · rw [if_neg (by omega)] at hM
    have h2 : a + 2 ≤ l.length := by omega
    obtain ⟨g, o, rfl, hc⟩ := (hr.ext st.low).at_ (by rw [List.length_map]; omega)
    have hca := hc a (byteV l[a]) (by simp [show a < l.length by omega])
    have hcb := hc (a + 1) (byteV l[a + 1]) (by simp [show a + 1 < l.length by omega])
    have hn2 := leV2 (l := l) (a := a) (by omega)
    have xa := (l[a]).toNat_lt
    have xb := (l[a + 1]).toNat_lt
    have hcut := fun q => (hr.ext st.low).cut (a + 2) 1 c q (by intro hh; simp; omega)
    simp only [Nat.mul_one, ← List.map_drop, ← List.map_take] at hcut
    generalize leV ((l.drop a).take 2) = n at *
    generalize l[a] = ya at *
    generalize l[a + 1] = yb at *
    refine X_skip ?_
    refine X_seq ?_
    refine X_draw byKind (by kernel_rfl) (by kernel_rfl) ?_
    refine XR_a (op_move rfl) rfl rfl ?_
    refine XR_a (op_move rfl) rfl rfl ?_
    first | refine XR_a (op_index1 rfl rfl rfl (by omega)) rfl rfl ?_ | refine XR_a (op_index rfl rfl rfl (by omega)) rfl rfl ?_
    refine XR_a (op_ld (hca) rfl rfl rfl) rfl rfl ?_
    first | refine XR_a (op_convI rfl rfl (by simp only [inK]; omega)) rfl rfl ?_ | refine XR_a (op_conv rfl rfl) rfl rfl ?_
    refine XR_a (op_move rfl) rfl rfl ?_
    refine XR_a (op_move rfl) rfl rfl ?_
    first | refine XR_a (op_addN (n := 1) rfl rfl (by simp only [inK]; omega)) rfl rfl ?_ | refine XR_a (op_addI rfl rfl (by simp only [inK]; omega)) rfl rfl ?_ | refine XR_a (op_add rfl rfl) rfl rfl ?_
    first | refine XR_a (op_index1 rfl rfl rfl (by omega)) rfl rfl ?_ | refine XR_a (op_index rfl rfl rfl (by omega)) rfl rfl ?_
    refine XR_a (op_ld (hcb) rfl rfl rfl) rfl rfl ?_
    first | refine XR_a (op_convI rfl rfl (by simp only [inK]; omega)) rfl rfl ?_ | refine XR_a (op_conv rfl rfl) rfl rfl ?_
    refine XR_a (op_mulN (m := 256) rfl rfl (by simp only [inK]; omega)) rfl rfl ?_
    first | refine XR_a (op_addN rfl rfl (by simp only [inK]; omega)) rfl rfl ?_ | refine XR_a (op_addI rfl rfl (by simp only [inK]; omega)) rfl rfl ?_ | refine XR_a (op_add rfl rfl) rfl rfl ?_
    rw [← hn2]
    refine XR_a (op_assign rfl) rfl rfl ?_
    refine XR_nil ?_
    refine X_seq ?_
    refine X_reg ?_
    refine XR_a (op_move rfl) rfl rfl ?_
    first | refine XR_a (op_addN (n := 2) rfl rfl (by simp only [inK]; omega)) rfl rfl ?_ | refine XR_a (op_addI rfl rfl (by simp only [inK]; omega)) rfl rfl ?_ | refine XR_a (op_add rfl rfl) rfl rfl ?_
    refine XR_a (op_assign rfl) rfl rfl ?_
    refine XR_nil ?_
    refine X_seq ?_
    refine X_seq ?_
    refine X_reg ?_
    refine XR_a (op_move rfl) rfl rfl ?_
    refine XR_a (op_move rfl) rfl rfl ?_
    refine XR_a (op_len rfl rfl rfl) rfl rfl ?_
    refine XR_a (op_move rfl) rfl rfl ?_
    first | refine XR_a (op_subN rfl rfl (by omega) (by simp only [inK]; omega)) rfl rfl ?_ | refine XR_a (op_subI rfl rfl (by simp only [inK]; omega)) rfl rfl ?_ | refine XR_a (op_sub rfl rfl) rfl rfl ?_
    refine XR_a (op_gtr rfl rfl) rfl rfl ?_
    refine XR_nil ?_
    refine X_if rfl (fun h => ?_) (fun h => ?_)
    · rw [if_pos (by omega)] at hM
      have hgf := hover _ hM
      refine X_seq ?_
      refine X_reg ?_
      first | refine XR_a (op_field0 rfl rfl) rfl rfl ?_ | refine XR_a (op_fieldn rfl rfl) rfl rfl ?_
      refine XR_wn (opl_store_pt st 0 rfl rfl rfl rfl rfl (rfl)) rfl rfl fun _ hp st => ?_
      simp only [List.set_cons_zero, List.set_cons_succ] at st
      refine XR_nil ?_
      refine X_seq ?_
      refine X_reg ?_
      refine XR_a (op_ldA (vs := gC 0 (.slice A9 n9 c9) 2) (st.cells 0 rfl) rfl rfl rfl rfl) rfl rfl ?_
      refine XR_wn (opl_store_whole (us := gC 0 (.slice A9 n9 c9) 2) st 2 rfl rfl rfl rfl rfl (gC_one rfl) rfl) rfl rfl fun _ hp st => ?_
      simp only [List.set_cons_zero, List.set_cons_succ] at st
      refine XR_nil ?_
      refine X_ret (.cons (RV_agg (vs := gC _ _ _) rfl rfl rfl (st.cells 2 rfl)) .nil) ?_
      exact ⟨_, _, out, rfl, hgf, (st.re 3 [1, 0, 2] (by decide)).keep 1⟩
    · rw [if_neg (by omega)] at hM
      refine X_skip ?_
      refine X_seq ?_
      refine X_seq ?_
      refine X_reg ?_
      refine XR_a (op_move rfl) rfl rfl ?_
      refine XR_a (op_move rfl) rfl rfl ?_
      first | refine XR_a (op_field0 rfl rfl) rfl rfl ?_ | refine XR_a (op_fieldn rfl rfl) rfl rfl ?_
      refine XR_a (op_ld (st.cell 0 (i := 1) rfl rfl) rfl rfl rfl) rfl rfl ?_
      refine XR_a (op_len rfl rfl rfl) rfl rfl ?_
      refine XR_a (op_subI rfl rfl (by simp only [inK]; omega)) rfl rfl ?_
      refine XR_a (op_gtr rfl rfl) rfl rfl ?_
      refine XR_nil ?_
      refine X_if rfl (fun h => ?_) (fun h => ?_)
      · rw [if_pos (by omega)] at hM
        have hgf := hover _ hM
        refine X_seq ?_
        refine X_reg ?_
        first | refine XR_a (op_field0 rfl rfl) rfl rfl ?_ | refine XR_a (op_fieldn rfl rfl) rfl rfl ?_
        refine XR_wn (opl_store_pt st 0 rfl rfl rfl rfl rfl (rfl)) rfl rfl fun _ hp st => ?_
        simp only [List.set_cons_zero, List.set_cons_succ] at st
        refine XR_nil ?_
        refine X_seq ?_
        refine X_reg ?_
        refine XR_a (op_ldA (vs := gC 0 (.slice A9 n9 c9) 5) (st.cells 0 rfl) rfl rfl rfl rfl) rfl rfl ?_
        refine XR_wn (opl_store_whole (us := gC 0 (.slice A9 n9 c9) 5) st 2 rfl rfl rfl rfl rfl (gC_one rfl) rfl) rfl rfl fun _ hp st => ?_
        simp only [List.set_cons_zero, List.set_cons_succ] at st
        refine XR_nil ?_
        refine X_ret (.cons (RV_agg (vs := gC _ _ _) rfl rfl rfl (st.cells 2 rfl)) .nil) ?_
        exact ⟨_, _, out, rfl, hgf, (st.re 3 [1, 0, 2] (by decide)).keep 1⟩
      · rw [if_neg (by omega)] at hM
        refine X_skip ?_
        refine X_seq ?_
        refine X_seq ?_
        refine X_reg ?_
        refine XR_a (op_move rfl) rfl rfl ?_
        refine XR_a (op_eql rfl rfl) rfl rfl ?_
        refine XR_nil ?_
        refine X_if rfl (fun h => ?_) (fun h => ?_)
        · rw [if_neg (by omega)] at hM
          refine X_seq ?_
          refine X_seq ?_
          refine X_reg ?_
          refine XR_a (op_move rfl) rfl rfl ?_
          refine XR_a (op_move rfl) rfl rfl ?_
          refine XR_a (op_len rfl rfl rfl) rfl rfl ?_
          refine XR_a (op_lss rfl rfl) rfl rfl ?_
          refine XR_nil ?_
          refine X_if rfl (fun h => ?_) (fun h => ?_)
          · rw [if_pos (by omega)] at hM
            have hgf := hover _ hM
            refine X_reg ?_
            first | refine XR_a (op_field0 rfl rfl) rfl rfl ?_ | refine XR_a (op_fieldn rfl rfl) rfl rfl ?_
            refine XR_wn (opl_store_pt st 0 rfl rfl rfl rfl rfl (rfl)) rfl rfl fun _ hp st => ?_
            simp only [List.set_cons_zero, List.set_cons_succ] at st
            refine XR_nil ?_
            refine X_seq ?_
            refine X_reg ?_
            refine XR_a (op_ldA (vs := gC 0 (.slice A9 n9 c9) 3) (st.cells 0 rfl) rfl rfl rfl rfl) rfl rfl ?_
            refine XR_wn (opl_store_whole (us := gC 0 (.slice A9 n9 c9) 3) st 2 rfl rfl rfl rfl rfl (gC_one rfl) rfl) rfl rfl fun _ hp st => ?_
            simp only [List.set_cons_zero, List.set_cons_succ] at st
            refine XR_nil ?_
            refine X_ret (.cons (RV_agg (vs := gC _ _ _) rfl rfl rfl (st.cells 2 rfl)) .nil) ?_
            exact ⟨_, _, out, rfl, hgf, (st.re 3 [1, 0, 2] (by decide)).keep 1⟩
          · rw [if_neg (by omega)] at hM
            refine X_seq ?_
            refine X_reg ?_
            first | refine XR_a (op_field0 rfl rfl) rfl rfl ?_ | refine XR_a (op_fieldn rfl rfl) rfl rfl ?_
            refine XR_a (op_ld (st.cell 0 (i := 1) rfl rfl) rfl rfl rfl) rfl rfl ?_
            refine XR_a (op_len rfl rfl rfl) rfl rfl ?_
            refine XR_a (op_move rfl) rfl rfl ?_
            refine XR_a (op_lss rfl rfl) rfl rfl ?_
            refine XR_nil ?_
            refine X_if rfl (fun h => ?_) (fun h => ?_)
            · rw [if_pos (by omega)] at hM
              have hgf := hover _ hM
              refine X_reg ?_
              first | refine XR_a (op_field0 rfl rfl) rfl rfl ?_ | refine XR_a (op_fieldn rfl rfl) rfl rfl ?_
              refine XR_wn (opl_store_pt st 0 rfl rfl rfl rfl rfl (rfl)) rfl rfl fun _ hp st => ?_
              simp only [List.set_cons_zero, List.set_cons_succ] at st
              refine XR_nil ?_
              refine X_seq ?_
              refine X_reg ?_
              refine XR_a (op_ldA (vs := gC 0 (.slice A9 n9 c9) 5) (st.cells 0 rfl) rfl rfl rfl rfl) rfl rfl ?_
              refine XR_wn (opl_store_whole (us := gC 0 (.slice A9 n9 c9) 5) st 2 rfl rfl rfl rfl rfl (gC_one rfl) rfl) rfl rfl fun _ hp st => ?_
              simp only [List.set_cons_zero, List.set_cons_succ] at st
              refine XR_nil ?_
              refine X_ret (.cons (RV_agg (vs := gC _ _ _) rfl rfl rfl (st.cells 2 rfl)) .nil) ?_
              exact ⟨_, _, out, rfl, hgf, (st.re 3 [1, 0, 2] (by decide)).keep 1⟩
            · rw [if_neg (by omega)] at hM
              have hgf := hover _ hM
              refine X_skip ?_
              refine X_seq ?_
              refine X_reg ?_
              refine XR_a (op_ldA (vs := gC 0 (.slice A9 n9 c9) 0) (st.cells 0 rfl) rfl rfl rfl rfl) rfl rfl ?_
              refine XR_wn (opl_store_whole (us := gC 0 (.slice A9 n9 c9) 0) st 2 rfl rfl rfl rfl rfl (gC_one rfl) rfl) rfl rfl fun _ hp st => ?_
              simp only [List.set_cons_zero, List.set_cons_succ] at st
              refine XR_nil ?_
              refine X_ret (.cons (RV_agg (vs := gC _ _ _) rfl rfl rfl (st.cells 2 rfl)) .nil) ?_
              exact ⟨_, _, out, rfl, hgf, (st.re 3 [1, 0, 2] (by decide)).keep 1⟩
        · rw [if_pos (by omega)] at hM
          refine X_skip ?_
          refine X_seq ?_
          refine X_draw byKind (by kernel_rfl) (by kernel_rfl) ?_
          first | refine XR_a (op_field0 rfl rfl) rfl rfl ?_ | refine XR_a (op_fieldn rfl rfl) rfl rfl ?_
          refine XR_a (op_ld (st.cell 0 (i := 1) rfl rfl) rfl rfl rfl) rfl rfl ?_
          refine XR_a (op_move rfl) rfl rfl ?_
          refine XR_a (op_move rfl) rfl rfl ?_
          refine XR_a (op_move rfl) rfl rfl ?_
          refine XR_a (op_move rfl) rfl rfl ?_
          first | refine XR_a (op_addN rfl rfl (by simp only [inK]; omega)) rfl rfl ?_ | refine XR_a (op_addI rfl rfl (by simp only [inK]; omega)) rfl rfl ?_ | refine XR_a (op_add rfl rfl) rfl rfl ?_
          refine XR_a (op_slice (l := a + 2) (h := a + 2 + n) rfl rfl rfl rfl (by omega) (by omega)) rfl rfl ?_
          refine XR_wa (opl_append st 1 rfl (hcut n) (by simp; omega) (one_bytes _) (by simp; omega) rfl rfl rfl rfl rfl rfl rfl) rfl rfl rfl fun v hp st => ?_
          simp only [List.set_cons_zero, List.set_cons_succ] at st
          rw [← List.map_append] at st
          have hv9 := row_one st 1 rfl
          first | refine XR_a (op_field0 rfl rfl) rfl rfl ?_ | refine XR_a (op_fieldn rfl rfl) rfl rfl ?_
          refine XR_wn (opl_store_pt st 0 rfl rfl rfl rfl rfl (hv9)) rfl rfl fun _ hp st => ?_
          simp only [List.set_cons_zero, List.set_cons_succ] at st
          refine XR_nil ?_
          refine X_reg ?_
          refine XR_a (op_move rfl) rfl rfl ?_
          refine XR_a (op_move rfl) rfl rfl ?_
          first | refine XR_a (op_addN rfl rfl (by simp only [inK]; omega)) rfl rfl ?_ | refine XR_a (op_addI rfl rfl (by simp only [inK]; omega)) rfl rfl ?_ | refine XR_a (op_add rfl rfl) rfl rfl ?_
          refine XR_a (op_assign rfl) rfl rfl ?_
          refine XR_nil ?_
          refine X_blk ?_
          refine X_again (a + 2 + n, out ++ (l.drop (a + 2)).take n, _) (.cons rfl (.cons rfl (.cons rfl (.cons rfl (.cons rfl (.nil _)))))) ⟨by simp only; omega, ?_, fun gB gE g => hgv _ _ (Giv.more (by rw [hM]) (by rw [hM]; exact g)), st⟩ (by simp only; omega)
          simp only [List.length_append, List.length_take, List.length_drop]
          omega
def gRes (B : Nat) (hb : Heap) (w : Value) (gB : List UInt8) : Res where
  P h S := ((∃ A n c, w = .slice A n c ∧ gB.length = n ∧ n ≤ c ∧ ∀ h', Low B hb h' → Rd h' A (gB.map byteV)) ∧ ∀ k, ¬ S k) ∨ RowAt 5 1 w (gB.map byteV) h S
  loc := by
    rintro h h' S (⟨h1, h2⟩ | h1) he
    · exact .inl ⟨h1, h2⟩
    · exact .inr ((row 5 1 w (gB.map byteV)).loc h1 he)
  lt := by
    rintro h S (⟨h1, h2⟩ | h1) k hk
    · exact absurd hk (h2 k)
    · exact (row 5 1 w (gB.map byteV)).lt h1 k hk
theorem St.gRes {B : Nat} {hb h0 hp : Heap} {w : Value} {gB : List UInt8} {rs : List Res} (st : St B h0 hp rs) (j : Nat) (hj : rs[j]? = some (gRes B hb w gB)) (hlw : Low B hb hp) : ∃ A n c, w = .slice A n c ∧ gB.length = n ∧ n ≤ c ∧ Rd hp A (gB.map byteV) := by
  obtain ⟨S, h, _⟩ := st.at_ hj
  rcases h with ⟨⟨A, n, c, h1, h2, h3, h4⟩, _⟩ | h
  · exact ⟨A, n, c, h1, h2, h3, h4 hp hlw⟩
  · obtain ⟨A, n, c, h1, h2, h3, _, h4⟩ := h.rd
    exact ⟨A, n, c, h1, by simpa using h2, h3, h4⟩
theorem St.gRow {B : Nat} {hb h0 hp : Heap} {w : Value} {gB : List UInt8} {rs : List Res} (st : St B h0 hp (Bn.row 5 1 w (gB.map byteV) :: rs)) : St B h0 hp (Bn.gRes B hb w gB :: rs) := by
  obtain ⟨h1, h2, S, S1, S2, g1, g2⟩ := st
  exact ⟨h1, h2, S, S1, S2, .inr g1, g2⟩
theorem St.gArg {B : Nat} {hb h0 hp : Heap} {A : Option Addr} {n c : Nat} {gB : List UInt8} {rs : List Res} (st : St B h0 hp rs) (hl : gB.length = n) (hc : n ≤ c) (hr : ∀ h', Low B hb h' → Rd h' A (gB.map byteV)) : St B h0 hp (Bn.gRes B hb (.slice A n c) gB :: rs) := by
  have h := St.emp.2 st
  obtain ⟨h1, h2, S, S1, S2, g1, g2⟩ := h
  exact ⟨h1, h2, S, S1, S2, .inl ⟨⟨A, n, c, rfl, hl, hc, hr⟩, g1⟩, g2⟩
theorem gives_ref {B m c : Nat} {mt size : Int} {A : Option Addr} {l : List UInt8} {F : List Res} {hb h0 : Heap} (st0 : St B h0 h0 F) (hlb : Low B hb h0) (hrB : ∀ h', Low B hb h' → Rd h' A (l.map byteV)) (hl : l.length = m) (hm : m ≤ 131072) (hmc : m ≤ c) :
    Ret Try.prog 13 [.int .i64 mt, .slice A m c, .int .i64 size] h0 fun v h' => ∃ w gE, v = .agg (gC (newE mt l size) w gE).toArray ∧ Value.one w = true ∧
      (newE mt l size ≠ 0 → w = .slice none 0 0 ∧ St B h0 h' F) ∧ (newE mt l size = 0 → ∃ gB, Giv (mvOf mt l size) (atOf mt l) [] gB gE ∧ St B h0 h' (gRes B hb w gB :: F)) := by
  obtain ⟨N, hN⟩ : ∃ N, newE mt l size = N := ⟨_, rfl⟩
  rw [hN]
  unfold newE at hN
  refine ret_of_X Try.func13 rfl rfl fun w0 hw0 => ?_
  simp only [argE, Nat.zero_add, Nat.reduceAdd]
  have st := st0
  refine X_seq ?_
  refine X_reg ?_
  refine XR_wa (opl_new rfl) rfl rfl rfl ?_
  rintro _ hp ⟨p6, rfl, hnew⟩
  replace st := st.new hnew
  replace st : St B h0 hp (pt p6 30 (gC 0 (.slice none 0 0) 0) :: F) := st
  refine XR_nil ?_
  refine X_seq ?_
  refine X_seq ?_
  refine X_reg ?_
  refine XR_a (op_move rfl) rfl rfl ?_
  refine XR_a (op_lss rfl rfl) rfl rfl ?_
  refine XR_a (op_move rfl) rfl rfl ?_
  refine XR_if 9 rfl (fun h => ?_) (fun h => ?_)
  · rw [if_pos (by omega)] at hN
    refine XR_no rfl rfl ?_
    refine XR_no rfl rfl ?_
    refine XR_a (op_pick_t rfl rfl) rfl rfl ?_
    refine XR_nil ?_
    refine X_then rfl ?_
    refine X_seq ?_
    refine X_reg ?_
    refine XR_a (op_build (ps := [(0, nV 1)]) (cs := (gC 1 (.slice none 0 0) 0).toArray) rfl rfl) rfl rfl ?_
    refine XR_wn (opl_store_whole (us := gC 1 (.slice none 0 0) 0) st 0 rfl rfl rfl rfl rfl (gC_one rfl) rfl) rfl rfl fun _ hp st => ?_
    simp only [List.set_cons_zero, List.set_cons_succ] at st
    refine XR_nil ?_
    refine X_ret (.cons (RV_agg (vs := gC _ _ _) rfl rfl rfl (st.cells 0 rfl)) .nil) ?_
    subst hN
    exact ⟨_, _, rfl, rfl, fun _ => ⟨rfl, st.tail⟩, fun h => absurd h (by decide)⟩
  · refine XR_a (op_move rfl) rfl rfl ?_
    refine XR_a (op_gtr rfl rfl) rfl rfl ?_
    refine XR_a (op_pick_f rfl rfl) rfl rfl ?_
    refine XR_nil ?_
    refine X_if rfl (fun h => ?_) (fun h => ?_)
    · rw [if_pos (by omega)] at hN
      refine X_seq ?_
      refine X_reg ?_
      refine XR_a (op_build (ps := [(0, nV 1)]) (cs := (gC 1 (.slice none 0 0) 0).toArray) rfl rfl) rfl rfl ?_
      refine XR_wn (opl_store_whole (us := gC 1 (.slice none 0 0) 0) st 0 rfl rfl rfl rfl rfl (gC_one rfl) rfl) rfl rfl fun _ hp st => ?_
      simp only [List.set_cons_zero, List.set_cons_succ] at st
      refine XR_nil ?_
      refine X_ret (.cons (RV_agg (vs := gC _ _ _) rfl rfl rfl (st.cells 0 rfl)) .nil) ?_
      subst hN
      exact ⟨_, _, rfl, rfl, fun _ => ⟨rfl, st.tail⟩, fun h => absurd h (by decide)⟩
    · rw [if_neg (by omega)] at hN
      refine X_skip ?_
      refine X_seq ?_
      refine X_seq ?_
      refine X_reg ?_
      refine XR_a (op_move rfl) rfl rfl ?_
      refine XR_a (op_lss rfl rfl) rfl rfl ?_
      refine XR_a (op_move rfl) rfl rfl ?_
      refine XR_if 16 rfl (fun h => ?_) (fun h => ?_)
      · refine XR_no rfl rfl ?_
        refine XR_no rfl rfl ?_
        refine XR_a (op_pick_t rfl rfl) rfl rfl ?_
        refine XR_a (op_move rfl) rfl rfl ?_
        refine XR_no rfl rfl ?_
        refine XR_no rfl rfl ?_
        refine XR_no rfl rfl ?_
        refine XR_no rfl rfl ?_
        refine XR_no rfl rfl ?_
        refine XR_no rfl rfl ?_
        refine XR_no rfl rfl ?_
        refine XR_no rfl rfl ?_
        refine XR_a (op_pick_t rfl rfl) rfl rfl ?_
        refine XR_nil ?_
        refine X_then rfl ?_
        refine X_seq ?_
        refine X_reg ?_
        refine XR_a (op_build (ps := [(0, nV 5)]) (cs := (gC 5 (.slice none 0 0) 0).toArray) rfl rfl) rfl rfl ?_
        refine XR_wn (opl_store_whole (us := gC 5 (.slice none 0 0) 0) st 0 rfl rfl rfl rfl rfl (gC_one rfl) rfl) rfl rfl fun _ hp st => ?_
        simp only [List.set_cons_zero, List.set_cons_succ] at st
        refine XR_nil ?_
        refine X_ret (.cons (RV_agg (vs := gC _ _ _) rfl rfl rfl (st.cells 0 rfl)) .nil) ?_
        rw [if_pos (by omega)] at hN
        subst hN
        exact ⟨_, _, rfl, rfl, fun _ => ⟨rfl, st.tail⟩, fun h => absurd h (by decide)⟩
      · refine XR_a (op_move rfl) rfl rfl ?_
        refine XR_a (op_gtr rfl rfl) rfl rfl ?_
        refine XR_a (op_pick_f rfl rfl) rfl rfl ?_
        refine XR_a (op_move rfl) rfl rfl ?_
        refine XR_if 20 rfl (fun h => ?_) (fun h => ?_)
        · refine XR_no rfl rfl ?_
          refine XR_no rfl rfl ?_
          refine XR_no rfl rfl ?_
          refine XR_no rfl rfl ?_
          refine XR_no rfl rfl ?_
          refine XR_no rfl rfl ?_
          refine XR_no rfl rfl ?_
          refine XR_no rfl rfl ?_
          refine XR_a (op_pick_t rfl rfl) rfl rfl ?_
          refine XR_nil ?_
          refine X_then rfl ?_
          refine X_seq ?_
          refine X_reg ?_
          refine XR_a (op_build (ps := [(0, nV 5)]) (cs := (gC 5 (.slice none 0 0) 0).toArray) rfl rfl) rfl rfl ?_
          refine XR_wn (opl_store_whole (us := gC 5 (.slice none 0 0) 0) st 0 rfl rfl rfl rfl rfl (gC_one rfl) rfl) rfl rfl fun _ hp st => ?_
          simp only [List.set_cons_zero, List.set_cons_succ] at st
          refine XR_nil ?_
          refine X_ret (.cons (RV_agg (vs := gC _ _ _) rfl rfl rfl (st.cells 0 rfl)) .nil) ?_
          rw [if_pos (by omega)] at hN
          subst hN
          exact ⟨_, _, rfl, rfl, fun _ => ⟨rfl, st.tail⟩, fun h => absurd h (by decide)⟩
        · refine XR_a (op_move rfl) rfl rfl ?_
          refine XR_a (op_eql rfl rfl) rfl rfl ?_
          refine XR_a (op_move rfl) rfl rfl ?_
          refine XR_if 23 rfl (fun h => ?_) (fun h => ?_)
          · refine XR_a (op_move rfl) rfl rfl ?_
            refine XR_a (op_len rfl rfl rfl) rfl rfl ?_
            refine XR_a (op_move rfl) rfl rfl ?_
            refine XR_a (op_neq rfl rfl) rfl rfl ?_
            refine XR_a (op_pick_t rfl rfl) rfl rfl ?_
            refine XR_a (op_pick_f rfl rfl) rfl rfl ?_
            refine XR_nil ?_
            refine X_if rfl (fun h => ?_) (fun h => ?_)
            · refine X_seq ?_
              refine X_reg ?_
              refine XR_a (op_build (ps := [(0, nV 5)]) (cs := (gC 5 (.slice none 0 0) 0).toArray) rfl rfl) rfl rfl ?_
              refine XR_wn (opl_store_whole (us := gC 5 (.slice none 0 0) 0) st 0 rfl rfl rfl rfl rfl (gC_one rfl) rfl) rfl rfl fun _ hp st => ?_
              simp only [List.set_cons_zero, List.set_cons_succ] at st
              refine XR_nil ?_
              refine X_ret (.cons (RV_agg (vs := gC _ _ _) rfl rfl rfl (st.cells 0 rfl)) .nil) ?_
              rw [if_pos (by omega)] at hN
              subst hN
              exact ⟨_, _, rfl, rfl, fun _ => ⟨rfl, st.tail⟩, fun h => absurd h (by decide)⟩
            · refine X_skip ?_
              refine X_seq ?_
              refine X_seq ?_
              refine X_reg ?_
              refine XR_a (op_move rfl) rfl rfl ?_
              refine XR_a (op_eql rfl rfl) rfl rfl ?_
              refine XR_nil ?_
              refine X_if rfl (fun h => ?_) (fun h => ?_)
              · have hmt : mt = 0 := by omega
                subst hmt
                rw [if_neg (by omega), if_pos (by omega)] at hN
                subst hN
                refine X_seq ?_
                refine X_reg ?_
                refine XR_a (op_move rfl) rfl rfl ?_
                refine XR_a (op_build (ps := [(1, .slice A m c)]) (cs := (gC 0 (.slice A m c) 0).toArray) rfl rfl) rfl rfl ?_
                refine XR_wn (opl_store_whole (us := gC 0 (.slice A m c) 0) st 0 rfl rfl rfl rfl rfl (gC_one rfl) rfl) rfl rfl fun _ hp st => ?_
                simp only [List.set_cons_zero, List.set_cons_succ] at st
                refine XR_nil ?_
                refine X_ret (.cons (RV_agg (vs := gC _ _ _) rfl rfl rfl (st.cells 0 rfl)) .nil) ?_
                exact ⟨_, _, rfl, rfl, fun h => absurd rfl h, fun _ => ⟨l, Giv.over (mv := mvA l) (a := 0) (out := []) rfl, st.tail.gArg hl hmc hrB⟩⟩
              · refine X_skip ?_
                refine X_seq ?_
                refine X_seq ?_
                refine X_reg ?_
                refine XR_a (op_move rfl) rfl rfl ?_
                refine XR_a (op_eql rfl rfl) rfl rfl ?_
                refine XR_nil ?_
                refine X_if rfl (fun h => ?_) (fun h => ?_)
                · have hmt : mt = 2 := by omega
                  subst hmt
                  rw [if_neg (by omega), if_pos (by omega)] at hN
                  subst hN
                  obtain ⟨sz, rfl⟩ : ∃ s : Nat, size = s := ⟨size.toNat, by omega⟩
                  refine X_seq ?_
                  refine X_reg ?_
                  refine XR_a (op_move rfl) rfl rfl ?_
                  refine XR_a (op_move rfl) rfl rfl ?_
                  refine XR_wa (opl_call (pieces36_ref (hrB _ (hlb.trans st.low)) hl hm hmc (by omega)) rfl (by kernel_rfl)) rfl rfl rfl ?_
                  rintro _ hp ⟨w, gE, gB, rfl, hg, st1⟩
                  replace st := st.join st1
                  simp only [List.cons_append, List.nil_append] at st
                  obtain ⟨A9, n9, c9, rfl, _⟩ := st.row 0 rfl
                  refine XR_wn (opl_store_whole (us := gC 0 (.slice A9 n9 c9) gE) st 1 rfl rfl rfl rfl rfl (gC_one rfl) rfl) rfl rfl fun _ hp st => ?_
                  simp only [List.set_cons_zero, List.set_cons_succ] at st
                  refine XR_nil ?_
                  refine X_ret (.cons (RV_agg (vs := gC _ _ _) rfl rfl rfl (st.cells 1 rfl)) .nil) ?_
                  exact ⟨_, _, rfl, rfl, fun h => absurd rfl h, fun _ => ⟨gB, hg, (st.perm (List.Perm.swap _ _ _)).tail.gRow⟩⟩
                · have hmt : mt = 1 := by omega
                  subst hmt
                  rw [if_neg (by omega), if_neg (by omega)] at hN
                  obtain ⟨sz, rfl⟩ : ∃ s : Nat, size = s := ⟨size.toNat, by omega⟩
                  refine X_skip ?_
                  refine X_seq ?_
                  refine X_reg ?_
                  refine XR_a (op_move rfl) rfl rfl ?_
                  refine XR_a (op_move rfl) rfl rfl ?_
                  refine XR_wa (opl_call (packed_ref (hrB _ (hlb.trans st.low)) hl hm (by omega)) rfl (by kernel_rfl)) rfl rfl rfl ?_
                  rintro _ hp ⟨w, gE, rfl, how, hbad, hgood⟩
                  rw [hN] at hbad hgood ⊢
                  obtain ⟨F', st, hfin⟩ : ∃ F', St B h0 hp (pt p6 30 (gC 0 (.slice none 0 0) 0) :: F') ∧ ∀ h', St B h0 h' F' → (N ≠ 0 → w = .slice none 0 0 ∧ St B h0 h' F) ∧ (N = 0 → ∃ gB, Giv (mvOf 1 l sz) (atOf 1 l) [] gB gE ∧ St B h0 h' (gRes B hb w gB :: F)) := by
                    by_cases hN0 : N = 0
                    · obtain ⟨gB, hg, st1⟩ := hgood hN0
                      exact ⟨_, (st.join st1).perm (List.Perm.swap _ _ _), fun h' s => ⟨fun h => absurd hN0 h, fun _ => ⟨gB, hg, s.gRow⟩⟩⟩
                    · obtain ⟨hw, hx⟩ := hbad hN0
                      exact ⟨F, st.ext hx, fun h' s => ⟨fun _ => ⟨hw, s⟩, fun h => absurd h hN0⟩⟩
                  refine XR_wn (opl_store_whole (us := gC N w gE) st 0 rfl rfl rfl rfl rfl (gC_one how) rfl) rfl rfl fun _ hp st => ?_
                  simp only [List.set_cons_zero, List.set_cons_succ] at st
                  refine XR_nil ?_
                  refine X_ret (.cons (RV_agg (vs := gC _ _ _) rfl rfl rfl (st.cells 0 rfl)) .nil) ?_
                  exact ⟨_, _, rfl, how, hfin _ st.tail⟩
          · refine XR_no rfl rfl ?_
            refine XR_no rfl rfl ?_
            refine XR_no rfl rfl ?_
            refine XR_no rfl rfl ?_
            refine XR_a (op_pick_f rfl rfl) rfl rfl ?_
            refine XR_a (op_pick_f rfl rfl) rfl rfl ?_
            refine XR_nil ?_
            refine X_else rfl ?_
            refine X_skip ?_
            refine X_seq ?_
            refine X_seq ?_
            refine X_reg ?_
            refine XR_a (op_move rfl) rfl rfl ?_
            refine XR_a (op_eql rfl rfl) rfl rfl ?_
            refine XR_nil ?_
            refine X_if rfl (fun h => ?_) (fun h => ?_)
            · have hmt : mt = 0 := by omega
              subst hmt
              rw [if_neg (by omega), if_pos (by omega)] at hN
              subst hN
              refine X_seq ?_
              refine X_reg ?_
              refine XR_a (op_move rfl) rfl rfl ?_
              refine XR_a (op_build (ps := [(1, .slice A m c)]) (cs := (gC 0 (.slice A m c) 0).toArray) rfl rfl) rfl rfl ?_
              refine XR_wn (opl_store_whole (us := gC 0 (.slice A m c) 0) st 0 rfl rfl rfl rfl rfl (gC_one rfl) rfl) rfl rfl fun _ hp st => ?_
              simp only [List.set_cons_zero, List.set_cons_succ] at st
              refine XR_nil ?_
              refine X_ret (.cons (RV_agg (vs := gC _ _ _) rfl rfl rfl (st.cells 0 rfl)) .nil) ?_
              exact ⟨_, _, rfl, rfl, fun h => absurd rfl h, fun _ => ⟨l, Giv.over (mv := mvA l) (a := 0) (out := []) rfl, st.tail.gArg hl hmc hrB⟩⟩
            · refine X_skip ?_
              refine X_seq ?_
              refine X_seq ?_
              refine X_reg ?_
              refine XR_a (op_move rfl) rfl rfl ?_
              refine XR_a (op_eql rfl rfl) rfl rfl ?_
              refine XR_nil ?_
              refine X_if rfl (fun h => ?_) (fun h => ?_)
              · have hmt : mt = 2 := by omega
                subst hmt
                rw [if_neg (by omega), if_pos (by omega)] at hN
                subst hN
                obtain ⟨sz, rfl⟩ : ∃ s : Nat, size = s := ⟨size.toNat, by omega⟩
                refine X_seq ?_
                refine X_reg ?_
                refine XR_a (op_move rfl) rfl rfl ?_
                refine XR_a (op_move rfl) rfl rfl ?_
                refine XR_wa (opl_call (pieces36_ref (hrB _ (hlb.trans st.low)) hl hm hmc (by omega)) rfl (by kernel_rfl)) rfl rfl rfl ?_
                rintro _ hp ⟨w, gE, gB, rfl, hg, st1⟩
                replace st := st.join st1
                simp only [List.cons_append, List.nil_append] at st
                obtain ⟨A9, n9, c9, rfl, _⟩ := st.row 0 rfl
                refine XR_wn (opl_store_whole (us := gC 0 (.slice A9 n9 c9) gE) st 1 rfl rfl rfl rfl rfl (gC_one rfl) rfl) rfl rfl fun _ hp st => ?_
                simp only [List.set_cons_zero, List.set_cons_succ] at st
                refine XR_nil ?_
                refine X_ret (.cons (RV_agg (vs := gC _ _ _) rfl rfl rfl (st.cells 1 rfl)) .nil) ?_
                exact ⟨_, _, rfl, rfl, fun h => absurd rfl h, fun _ => ⟨gB, hg, (st.perm (List.Perm.swap _ _ _)).tail.gRow⟩⟩
              · have hmt : mt = 1 := by omega
                subst hmt
                rw [if_neg (by omega), if_neg (by omega)] at hN
                obtain ⟨sz, rfl⟩ : ∃ s : Nat, size = s := ⟨size.toNat, by omega⟩
                refine X_skip ?_
                refine X_seq ?_
                refine X_reg ?_
                refine XR_a (op_move rfl) rfl rfl ?_
                refine XR_a (op_move rfl) rfl rfl ?_
                refine XR_wa (opl_call (packed_ref (hrB _ (hlb.trans st.low)) hl hm (by omega)) rfl (by kernel_rfl)) rfl rfl rfl ?_
                rintro _ hp ⟨w, gE, rfl, how, hbad, hgood⟩
                rw [hN] at hbad hgood ⊢
                obtain ⟨F', st, hfin⟩ : ∃ F', St B h0 hp (pt p6 30 (gC 0 (.slice none 0 0) 0) :: F') ∧ ∀ h', St B h0 h' F' → (N ≠ 0 → w = .slice none 0 0 ∧ St B h0 h' F) ∧ (N = 0 → ∃ gB, Giv (mvOf 1 l sz) (atOf 1 l) [] gB gE ∧ St B h0 h' (gRes B hb w gB :: F)) := by
                  by_cases hN0 : N = 0
                  · obtain ⟨gB, hg, st1⟩ := hgood hN0
                    exact ⟨_, (st.join st1).perm (List.Perm.swap _ _ _), fun h' s => ⟨fun h => absurd hN0 h, fun _ => ⟨gB, hg, s.gRow⟩⟩⟩
                  · obtain ⟨hw, hx⟩ := hbad hN0
                    exact ⟨F, st.ext hx, fun h' s => ⟨fun _ => ⟨hw, s⟩, fun h => absurd h hN0⟩⟩
                refine XR_wn (opl_store_whole (us := gC N w gE) st 0 rfl rfl rfl rfl rfl (gC_one how) rfl) rfl rfl fun _ hp st => ?_
                simp only [List.set_cons_zero, List.set_cons_succ] at st
                refine XR_nil ?_
                refine X_ret (.cons (RV_agg (vs := gC _ _ _) rfl rfl rfl (st.cells 0 rfl)) .nil) ?_
                exact ⟨_, _, rfl, how, hfin _ st.tail⟩
end Go.Bn
end

section
set_option linter.unusedVariables false
set_option linter.unusedSimpArgs false
set_option maxHeartbeats 4000000
set_option maxRecDepth 20000
namespace Go.Bn
open Go Proofs
theorem gives_ref2 {B m c : Nat} {mt size : Int} {A : Option Addr} {l : List UInt8} {F : List Res} {hb h0 : Heap} (st0 : St B h0 h0 F) (hlb : Low B hb h0) (hrB : ∀ h', Low B hb h' → Rd h' A (l.map byteV)) (hl : l.length = m) (hm : m ≤ 131072) (hmc : m ≤ c) :
    Ret Try.prog 13 [.int .i64 mt, .slice A m c, .int .i64 size] h0 fun v h' => ∃ w gE gB, v = .agg (gC (newE mt l size) w gE).toArray ∧ Value.one w = true ∧ (newE mt l size = 0 → Giv (mvOf mt l size) (atOf mt l) [] gB gE) ∧ (newE mt l size ≠ 0 → gB = []) ∧ St B h0 h' (gRes B hb w gB :: F) := by
  refine (gives_ref st0 hlb hrB hl hm hmc).mono ?_
  rintro v h' ⟨w, gE, rfl, ho, hb, hg⟩
  by_cases h : newE mt l size = 0
  · obtain ⟨gB, g, st⟩ := hg h
    exact ⟨w, gE, gB, rfl, ho, fun _ => g, fun h9 => absurd h h9, st⟩
  · obtain ⟨rfl, st⟩ := hb h
    exact ⟨_, gE, [], rfl, ho, fun h9 => absurd h9 h, fun _ => rfl, st.gArg rfl (Nat.le_refl _) (fun _ _ => .inl rfl)⟩
@[reducible] def payC (mt size : Int) (A : Option Addr) (m c : Nat) : List Value := [.int .i64 mt, .slice A m c, .int .i64 size]
theorem lives36 (h0 : Heap) : Ret Try.prog 12 [] h0 fun v h' => v = .bool true ∧ Ext h0 h' := by
  have hN : newE 0 [97, 98, 99] 3 = 0 := by unfold newE; rw [if_neg (by omega), if_neg (by simp), if_pos (by omega)]
  have hG : Giv (mvOf 0 [97, 98, 99] 3) (atOf 0 [97, 98, 99]) [] [97, 98, 99] 0 := by unfold mvOf; rw [if_pos rfl]; exact Giv.over (mv := mvA [97, 98, 99]) rfl
  have k1 : nextK [97, 98, 99] 0 2 = 2 := by decide
  have k2 : nextK [97, 98, 99] 2 2 = 1 := by decide
  have k3 : nextK [97, 98, 99] 3 2 = 0 := by decide
  have e1 : nextE [97, 98, 99] 0 0 2 = 0 := by decide
  have e2 : nextE [97, 98, 99] 0 2 2 = 0 := by decide
  have e3 : nextE [97, 98, 99] 0 3 2 = 0 := by decide
  refine ret_of_X Try.func12 rfl rfl fun w0 hw0 => ?_
  simp only [argE, Nat.zero_add, Nat.reduceAdd]
  have st := St.start h0
  refine X_seq ?_
  refine X_reg ?_
  refine XR_a (op_assign rfl) rfl rfl ?_
  refine XR_nil ?_
  refine X_seq ?_
  refine X_reg ?_
  refine XR_wa (opl_lits [.int .u8 97, .int .u8 98, .int .u8 99] rfl rfl rfl rfl (by kernel_rfl) rfl) rfl rfl rfl ?_
  rintro v2 hp hnew
  replace st := st.new hnew
  obtain ⟨gA, nA, cA, rfl, hlA, _⟩ := st.row0 0 rfl (by simp)
  have hlA : nA = 3 := by simpa using hlA.symm
  subst hlA
  refine XR_wa (opl_bytesLit st 0 rfl rfl rfl) rfl rfl rfl ?_
  rintro _ hp ⟨rfl, st⟩
  have hx0 := st.low
  obtain ⟨_, _, _, he, _, hcA, _, hrdA⟩ := st.row 0 rfl
  cases he
  have hrdA : Rd hp (some ⟨gA, 0, none⟩) (([97, 98, 99] : List UInt8).map byteV) := hrdA
  refine XR_wa (opl_call (rdnew_spec (l := [97, 98, 99]) (m := 3) (St.start hp) (fun h' hh => hrdA.ext hh) rfl (by omega) hcA) rfl (by kernel_rfl)) rfl rfl rfl ?_
  rintro _ hp1 ⟨w, rfl, hbad, hgood⟩
  obtain ⟨pr, S, rfl, hSb, hst⟩ := hgood hN
  have st := hst _ _ hG
  rw [hN]
  clear hbad hgood hst
  refine XR_a (op_move rfl) rfl rfl ?_
  refine XR_a (op_extract rfl rfl) rfl rfl ?_
  refine XR_a (op_extract rfl rfl) rfl rfl ?_
  refine XR_a (op_assign rfl) rfl rfl ?_
  refine XR_a (op_assign rfl) rfl rfl ?_
  refine XR_nil ?_
  refine X_seq ?_
  refine X_seq ?_
  refine X_reg ?_
  refine XR_a (op_move rfl) rfl rfl ?_
  refine XR_a (op_neq rfl rfl) rfl rfl ?_
  refine XR_as (.bool false) (congrArg Value.bool (decide_eq_false (by simp))) ?_
  refine XR_a (op_move rfl) rfl rfl ?_
  refine XR_a (op_move rfl) rfl rfl ?_
  refine XR_a (op_ptr_nil rfl rfl rfl) rfl rfl ?_
  refine XR_a (op_pick_f rfl rfl) rfl rfl ?_
  refine XR_nil ?_
  refine X_else rfl ?_
  refine X_skip ?_
  refine X_seq ?_
  refine X_reg ?_
  refine XR_a (op_move rfl) rfl rfl ?_
  refine XR_wa (opl_call (rnext_spec st.here (by rw [hSb]; exact st.low) (n := 2) (by simp only [inK]; omega)) rfl (by kernel_rfl)) rfl rfl rfl ?_
  rintro _ hp2 ⟨w1, rfl, st2⟩
  rw [k1, e1] at *
  replace st := (st.trans st2).perm (List.Perm.swap _ _ _)
  clear st2
  refine XR_a (op_move rfl) rfl rfl ?_
  refine XR_a (op_extract rfl rfl) rfl rfl ?_
  refine XR_a (op_extract rfl rfl) rfl rfl ?_
  refine XR_a (op_assign rfl) rfl rfl ?_
  refine XR_a (op_assign rfl) rfl rfl ?_
  refine XR_nil ?_
  refine X_seq ?_
  refine X_reg ?_
  refine XR_a (op_move rfl) rfl rfl ?_
  refine XR_wa (opl_call (rnext_spec st.here (by rw [hSb]; exact st.low) (n := 2) (by simp only [inK]; omega)) rfl (by kernel_rfl)) rfl rfl rfl ?_
  rintro _ hp3 ⟨w2, rfl, st2⟩
  rw [Nat.zero_add, k2, e2] at *
  replace st := (st.trans st2).perm (List.Perm.swap _ _ _)
  clear st2
  refine XR_a (op_move rfl) rfl rfl ?_
  refine XR_a (op_extract rfl rfl) rfl rfl ?_
  refine XR_a (op_extract rfl rfl) rfl rfl ?_
  refine XR_a (op_assign rfl) rfl rfl ?_
  refine XR_a (op_assign rfl) rfl rfl ?_
  refine XR_nil ?_
  refine X_seq ?_
  refine X_reg ?_
  refine XR_a (op_move rfl) rfl rfl ?_
  refine XR_wa (opl_call (rnext_spec st.here (by rw [hSb]; exact st.low) (n := 2) (by simp only [inK]; omega)) rfl (by kernel_rfl)) rfl rfl rfl ?_
  rintro _ hp4 ⟨w3, rfl, st2⟩
  rw [k3, e3] at *
  replace st := (st.trans st2).perm (List.Perm.swap _ _ _)
  clear st2
  obtain ⟨A3, n3, c3, rfl, hl3, _⟩ := st.row 1 rfl
  obtain ⟨A2, n2, c2, rfl, hl2, _⟩ := st.row 2 rfl
  obtain ⟨A1, n1, c1, rfl, hl1, _⟩ := st.row 3 rfl
  have hl1 : n1 = 2 := by simpa using hl1.symm
  have hl2 : n2 = 1 := by simpa using hl2.symm
  have hl3 : n3 = 0 := by simpa using hl3.symm
  subst hl1 hl2 hl3
  refine XR_a (op_move rfl) rfl rfl ?_
  refine XR_a (op_extract rfl rfl) rfl rfl ?_
  refine XR_a (op_extract rfl rfl) rfl rfl ?_
  refine XR_a (op_assign rfl) rfl rfl ?_
  refine XR_a (op_assign rfl) rfl rfl ?_
  refine XR_nil ?_
  refine X_seq ?_
  refine X_reg ?_
  refine XR_a (op_move rfl) rfl rfl ?_
  refine XR_a (op_str (l := [97, 98]) (st.rdS 3 rfl).2 rfl rfl rfl rfl rfl) rfl rfl ?_
  refine XR_a (op_eqlS rfl rfl) rfl rfl ?_
  refine XR_as (.bool true) rfl ?_
  refine XR_a (op_move rfl) rfl rfl ?_
  refine XR_a (op_move rfl) rfl rfl ?_
  refine XR_a (op_str (l := [99]) (st.rdS 2 rfl).2 rfl rfl rfl rfl rfl) rfl rfl ?_
  refine XR_a (op_eqlS rfl rfl) rfl rfl ?_
  refine XR_as (.bool true) rfl ?_
  refine XR_a (op_pick_t rfl rfl) rfl rfl ?_
  refine XR_a (op_move rfl) rfl rfl ?_
  refine XR_a (op_move rfl) rfl rfl ?_
  refine XR_a (op_len rfl rfl rfl) rfl rfl ?_
  refine XR_a (op_eql rfl rfl) rfl rfl ?_
  refine XR_as (.bool true) (congrArg Value.bool (decide_eq_true (by simp))) ?_
  refine XR_a (op_pick_t rfl rfl) rfl rfl ?_
  refine XR_a (op_move rfl) rfl rfl ?_
  refine XR_a (op_move rfl) rfl rfl ?_
  refine XR_a (op_eql rfl rfl) rfl rfl ?_
  refine XR_as (.bool true) (congrArg Value.bool (decide_eq_true (by simp))) ?_
  refine XR_a (op_pick_t rfl rfl) rfl rfl ?_
  refine XR_a (op_move rfl) rfl rfl ?_
  refine XR_a (op_move rfl) rfl rfl ?_
  refine XR_a (op_eql rfl rfl) rfl rfl ?_
  refine XR_as (.bool true) (congrArg Value.bool (decide_eq_true (by simp))) ?_
  refine XR_a (op_pick_t rfl rfl) rfl rfl ?_
  refine XR_a (op_move rfl) rfl rfl ?_
  refine XR_a (op_move rfl) rfl rfl ?_
  refine XR_a (op_eql rfl rfl) rfl rfl ?_
  refine XR_as (.bool true) (congrArg Value.bool (decide_eq_true (by simp))) ?_
  refine XR_a (op_pick_t rfl rfl) rfl rfl ?_
  refine XR_a (op_move rfl) rfl rfl ?_
  refine XR_a (op_move rfl) rfl rfl ?_
  refine XR_wa (opl_call (rdone_spec st.here (by rw [hSb]; exact st.low)) rfl (by kernel_rfl)) rfl rfl rfl ?_
  rintro _ hp5 ⟨rfl, st2⟩
  replace st := st.trans st2
  refine XR_a (op_pick_t rfl rfl) rfl rfl ?_
  refine XR_a (op_assign rfl) rfl rfl ?_
  refine XR_nil ?_
  refine X_ret (.cons (.tmp rfl) .nil) ?_
  exact ⟨rfl, Ext.trans hx0 st.low⟩
theorem great36 (mt size : Int) (A : Option Addr) (m c : Nat) (h0 : Heap) : Ret Try.prog 11 [.agg (payC mt size A m c).toArray] h0 fun v h' => v = .bool (decide (1500 < m)) ∧ Ext h0 h' := by
  refine ret_of_X Try.func11 rfl rfl fun w0 hw0 => ?_
  simp only [argE, Nat.zero_add, Nat.reduceAdd]
  have st := St.start h0
  refine X_seq ?_
  refine X_reg ?_
  refine XR_wa (opl_bx (cs := payC mt size A m c) rfl rfl) rfl rfl rfl ?_
  rintro _ hp ⟨p, rfl, hnew⟩
  replace st := st.new hnew
  refine XR_a (op_assign rfl) rfl rfl ?_
  refine XR_nil ?_
  refine X_seq ?_
  refine X_reg ?_
  first | refine XR_a (op_field0 rfl rfl) rfl rfl ?_ | refine XR_a (op_fieldn rfl rfl) rfl rfl ?_
  refine XR_a (op_ld (st.cell 0 (i := 1) rfl rfl) rfl rfl rfl) rfl rfl ?_
  refine XR_a (op_len rfl rfl rfl) rfl rfl ?_
  refine XR_a (op_gtr rfl rfl) rfl rfl ?_
  refine XR_a (op_assign rfl) rfl rfl ?_
  refine XR_nil ?_
  refine X_ret (.cons (.tmp rfl) .nil) ?_
  exact ⟨congrArg Value.bool (decide_eq_decide.2 ⟨fun hh => by omega, fun hh => by omega⟩), st.low⟩
def wholeG (N : Nat) (gB : List UInt8) (gE : Nat) (step : Int) : List UInt8 × Nat := if step < 1 then ([], 1) else if N ≠ 0 then ([], N) else if gE ≠ 0 then ([], gE) else (gB, 0)
theorem rwhole_spec {B m c : Nat} {mt size step : Int} {A : Option Addr} {l gB : List UInt8} {gE : Nat} {F : List Res} {h0 : Heap} (st0 : St B h0 h0 F) (hrB : ∀ h', Low B h0 h' → Rd h' A (l.map byteV)) (hl : l.length = m) (hm : m ≤ 1073741824) (hmc : m ≤ c) (hstep : inK .i64 step)
    (hG : newE mt l size = 0 → Giv (mvOf mt l size) (atOf mt l) [] gB gE) :
    Ret Try.prog 20 [.int .i64 mt, .slice A m c, .int .i64 size, .int .i64 step] h0 fun v h' => ∃ w, v = retVal [w, nV (wholeG (newE mt l size) gB gE step).2] ∧ St B h0 h' (row 5 1 w ((wholeG (newE mt l size) gB gE step).1.map byteV) :: F) := by
  obtain ⟨W, hW⟩ : ∃ W, wholeG (newE mt l size) gB gE step = W := ⟨_, rfl⟩
  rw [hW]
  unfold wholeG at hW
  refine ret_of_X Try.func20 rfl rfl fun w0 hw0 => ?_
  simp only [argE, Nat.zero_add, Nat.reduceAdd]
  have st := st0
  refine X_seq ?_
  refine X_reg ?_
  refine XR_a (op_assign rfl) rfl rfl ?_
  refine XR_a (op_assign rfl) rfl rfl ?_
  refine XR_nil ?_
  refine X_seq ?_
  refine X_seq ?_
  refine X_reg ?_
  refine XR_a (op_move rfl) rfl rfl ?_
  refine XR_a (op_lss rfl rfl) rfl rfl ?_
  refine XR_nil ?_
  refine X_if rfl (fun h => ?_) (fun h => ?_)
  · refine X_seq ?_
    refine X_reg ?_
    refine XR_a (op_assign rfl) rfl rfl ?_
    refine XR_a (op_assign rfl) rfl rfl ?_
    refine XR_nil ?_
    refine X_ret (.cons (.tmp rfl) (.cons (.tmp rfl) .nil)) ?_
    rw [if_pos (by omega)] at hW
    subst hW
    exact ⟨_, rfl, st.nilrow 5 1⟩
  · refine X_skip ?_
    refine X_seq ?_
    refine X_reg ?_
    refine XR_a (op_move rfl) rfl rfl ?_
    refine XR_a (op_move rfl) rfl rfl ?_
    refine XR_a (op_move rfl) rfl rfl ?_
    refine XR_wa (opl_call (rdnew_spec st hrB hl hm hmc) rfl (by kernel_rfl)) rfl rfl rfl ?_
    rintro _ hp1 ⟨w, rfl, hbad, hgood⟩
    rw [if_neg (by omega)] at hW
    refine XR_a (op_move rfl) rfl rfl ?_
    refine XR_a (op_extract rfl rfl) rfl rfl ?_
    refine XR_a (op_extract rfl rfl) rfl rfl ?_
    refine XR_a (op_assign rfl) rfl rfl ?_
    refine XR_a (op_assign rfl) rfl rfl ?_
    refine XR_nil ?_
    refine X_seq ?_
    refine X_seq ?_
    refine X_reg ?_
    refine XR_a (op_move rfl) rfl rfl ?_
    refine XR_a (op_neq rfl rfl) rfl rfl ?_
    refine XR_nil ?_
    refine X_if rfl (fun h => ?_) (fun h => ?_)
    · refine X_seq ?_
      refine X_reg ?_
      refine XR_a (op_move rfl) rfl rfl ?_
      refine XR_a (op_assign rfl) rfl rfl ?_
      refine XR_a (op_assign rfl) rfl rfl ?_
      refine XR_nil ?_
      refine X_ret (.cons (.tmp rfl) (.cons (.tmp rfl) .nil)) ?_
      obtain ⟨rfl, st⟩ := hbad (by omega)
      rw [if_pos (by omega)] at hW
      subst hW
      exact ⟨_, rfl, st.nilrow 5 1⟩
    · refine X_skip ?_
      refine X_seq ?_
      refine X_reg ?_
      refine XR_a (op_assign rfl) rfl rfl ?_
      refine XR_nil ?_
      refine X_block ?_
      rw [if_neg (by omega)] at hW
      obtain ⟨pr, S, rfl, hSb, hst⟩ := hgood (by omega)
      have st := (hst _ _ (hG (by omega))).nilrow 5 1
      clear hbad hgood hst
      refine X_loop (fun s => gB.length - s.1) (fun s => [(3, .int .i64 step), (10, .pointer (some ⟨pr, 0, none⟩)), (12, s.2)])
        (fun (s : Nat × Value) hp => s.1 ≤ gB.length ∧ St B h0 hp (row 5 1 s.2 ((gB.take s.1).map byteV) :: rdrR S pr gB gE s.1 :: F))
        (0, _) (.cons rfl (.cons rfl (.cons rfl (.nil _)))) ⟨Nat.zero_le _, st⟩ ?_
      clear st
      rintro ⟨told, v⟩ hp ⟨ht, st⟩
      simp only at ht st ⊢
      obtain ⟨A9, n9, c9, rfl, hl9, _⟩ := st.row 0 rfl
      have hgl : gB.length ≤ 1048576 := by
        obtain ⟨_, _, _, h3, _⟩ := St.rdr (st.perm (List.Perm.swap _ _ _))
        have := S.hlim
        omega
      replace st := st.perm (List.Perm.swap _ _ _)
      obtain ⟨K, hK⟩ : ∃ K, nextK gB told step = K := ⟨_, rfl⟩
      obtain ⟨X, hX⟩ : ∃ X, nextE gB gE told step = X := ⟨_, rfl⟩
      have hK2 := hK
      have hX2 := hX
      unfold nextK at hK2
      unfold nextE at hX2
      rw [if_neg (by omega)] at hK2 hX2
      refine X_block ?_
      refine X_seq ?_
      refine X_reg ?_
      refine XR_a (op_move rfl) rfl rfl ?_
      refine XR_a (op_move rfl) rfl rfl ?_
      refine XR_wa (opl_call (rnext_spec st.here (by rw [hSb]; exact st.low) hstep) rfl (by kernel_rfl)) rfl rfl rfl ?_
      rintro _ hp2 ⟨w1, rfl, st2⟩
      rw [hK, hX] at *
      replace st := st.trans st2
      clear st2
      obtain ⟨A1, n1, c1, rfl, hl1, _, _, hrd1⟩ := st.row 0 rfl
      rw [List.length_map, List.length_take, List.length_drop, Nat.mul_one] at hl1
      refine XR_a (op_move rfl) rfl rfl ?_
      refine XR_a (op_extract rfl rfl) rfl rfl ?_
      refine XR_a (op_extract rfl rfl) rfl rfl ?_
      refine XR_a (op_assign rfl) rfl rfl ?_
      refine XR_a (op_assign rfl) rfl rfl ?_
      refine XR_nil ?_
      refine X_seq ?_
      refine X_block ?_
      refine X_seq ?_
      refine X_reg ?_
      refine XR_a (op_move rfl) rfl rfl ?_
      refine XR_a (op_neq rfl rfl) rfl rfl ?_
      refine XR_a (op_assign rfl) rfl rfl ?_
      refine XR_nil ?_
      refine X_if rfl (fun h => ?_) (fun h => ?_)
      · refine X_seq ?_
        refine X_reg ?_
        refine XR_a (op_move rfl) rfl rfl ?_
        refine XR_a (op_assign rfl) rfl rfl ?_
        refine XR_a (op_assign rfl) rfl rfl ?_
        refine XR_nil ?_
        refine X_ret (.cons (.tmp rfl) (.cons (.tmp rfl) .nil)) ?_
        have hle : gB.length ≤ told := by
          refine Classical.byContradiction fun hn => ?_
          rw [if_neg hn] at hX2
          omega
        rw [if_pos hle] at hX2
        rw [if_pos (by omega)] at hW
        subst hW hX2
        exact ⟨_, rfl, (St.reF [_, _, _] 3 st [0, 1, 2] (by decide)).tail.tail.tail.nilrow 5 1⟩
      · refine X_seq ?_
        refine X_reg ?_
        refine XR_a (op_move rfl) rfl rfl ?_
        refine XR_a (op_len rfl rfl rfl) rfl rfl ?_
        refine XR_a (op_eql rfl rfl) rfl rfl ?_
        refine XR_a (op_assign rfl) rfl rfl ?_
        refine XR_nil ?_
        refine X_if rfl (fun h => ?_) (fun h => ?_)
        · refine X_seq ?_
          refine X_reg ?_
          refine XR_a (op_move rfl) rfl rfl ?_
          refine XR_a (op_assign rfl) rfl rfl ?_
          refine XR_a (op_assign rfl) rfl rfl ?_
          refine XR_nil ?_
          refine X_ret (.cons (.tmp rfl) (.cons (.tmp rfl) .nil)) ?_
          have hle : gB.length ≤ told := by omega
          rw [if_pos hle] at hX2
          rw [if_neg (by omega)] at hW
          subst hW
          have e : gB.take told = gB := List.take_of_length_le (by omega)
          rw [e] at st
          exact ⟨_, rfl, (St.reF [_, _, _] 3 st [0, 1, 2] (by decide)).tail.tail⟩
        · refine X_skip ?_
          refine X_blk ?_
          refine X_reg ?_
          refine XR_a (op_move rfl) rfl rfl ?_
          refine XR_a (op_move rfl) rfl rfl ?_
          refine XR_wa (opl_append st 2 rfl (hrd1) (by simp; omega) (one_bytes _) (by simp; omega) rfl rfl rfl rfl rfl rfl rfl) rfl rfl rfl fun v hp st => ?_
          simp only [List.set_cons_zero, List.set_cons_succ] at st
          rw [← List.map_append, show gB.take told ++ (gB.drop told).take K = gB.take (told + K) by rw [← List.take_add]] at st
          refine XR_a (op_assign rfl) rfl rfl ?_
          refine XR_nil ?_
          refine X_blk ?_
          exact X_again (told + K, _) (.cons rfl (.cons rfl (.cons rfl (.nil _)))) ⟨by simp only; omega, (St.reF [_, _, _] 3 st [0, 2, 1] (by decide)).tail⟩ (by simp only; omega)
theorem readerWholes_ret {m c : Nat} {mt size step : Int} {A : Option Addr} {l : List UInt8} {h0 : Heap} (hr : Rd h0 A (l.map byteV)) (hl : l.length = m) (hmc : m ≤ c) (hstep : inK .i64 step) :
    Ret Try.prog 5 [.agg (payC mt size A m c).toArray, .int .i64 step] h0 fun v h' => v = .bool true ∧ Ext h0 h' := by
  refine ret_of_X Try.func5 rfl rfl fun w0 hw0 => ?_
  simp only [argE, Nat.zero_add, Nat.reduceAdd]
  have st := St.start h0
  refine X_seq ?_
  refine X_reg ?_
  refine XR_wa (opl_bx (cs := payC mt size A m c) rfl rfl) rfl rfl rfl ?_
  rintro _ hp ⟨p2, rfl, hnew⟩
  replace st := st.new hnew
  refine XR_a (op_assign rfl) rfl rfl ?_
  refine XR_nil ?_
  refine X_seq ?_
  refine X_seq ?_
  refine X_reg ?_
  refine XR_a (op_ldA (vs := payC mt size A m c) (st.cells 0 rfl) rfl rfl rfl rfl) rfl rfl ?_
  refine XR_wa (opl_call (great36 _ _ _ _ _ _) rfl (by kernel_rfl)) rfl rfl rfl ?_
  rintro _ hp ⟨rfl, hx⟩
  replace st := st.ext hx
  refine XR_nil ?_
  refine X_if rfl (fun h => ?_) (fun h => ?_)
  · refine X_seq ?_
    refine X_reg ?_
    refine XR_wa (opl_call (lives36 _) rfl (by kernel_rfl)) rfl rfl rfl ?_
    rintro _ hp ⟨rfl, hx⟩
    refine XR_a (op_assign rfl) rfl rfl ?_
    refine XR_nil ?_
    refine X_ret (.cons (.tmp rfl) .nil) ?_
    exact ⟨rfl, Ext.trans st.low hx⟩
  · refine X_skip ?_
    refine X_seq ?_
    refine X_reg ?_
    first | refine XR_a (op_field0 rfl rfl) rfl rfl ?_ | refine XR_a (op_fieldn rfl rfl) rfl rfl ?_
    refine XR_a (op_ld (st.cell 0 (i := 0) rfl rfl) rfl rfl rfl) rfl rfl ?_
    first | refine XR_a (op_field0 rfl rfl) rfl rfl ?_ | refine XR_a (op_fieldn rfl rfl) rfl rfl ?_
    refine XR_a (op_ld (st.cell 0 (i := 1) rfl rfl) rfl rfl rfl) rfl rfl ?_
    first | refine XR_a (op_field0 rfl rfl) rfl rfl ?_ | refine XR_a (op_fieldn rfl rfl) rfl rfl ?_
    refine XR_a (op_ld (st.cell 0 (i := 2) rfl rfl) rfl rfl rfl) rfl rfl ?_
    refine XR_wa (opl_call (gives_ref2 st.here st.low (fun h' hh => hr.ext hh) hl (by omega) hmc) rfl (by kernel_rfl)) rfl rfl rfl ?_
    rintro _ hp ⟨w, gE, gB, rfl, how, hG, hgn, st2⟩
    replace st := st.trans st2
    clear st2
    refine XR_wa (opl_new rfl) rfl rfl rfl ?_
    rintro _ hp ⟨p5, rfl, hnew⟩
    replace st := st.new hnew
    refine XR_wn (opl_store_whole (us := gC (newE mt l size) w gE) st 0 rfl rfl rfl rfl rfl (gC_one how) rfl) rfl rfl fun _ hp st => ?_
    simp only [List.set_cons_zero, List.set_cons_succ] at st
    refine XR_nil ?_
    refine X_seq ?_
    refine X_reg ?_
    first | refine XR_a (op_field0 rfl rfl) rfl rfl ?_ | refine XR_a (op_fieldn rfl rfl) rfl rfl ?_
    refine XR_a (op_ld (st.cell 2 (i := 0) rfl rfl) rfl rfl rfl) rfl rfl ?_
    first | refine XR_a (op_field0 rfl rfl) rfl rfl ?_ | refine XR_a (op_fieldn rfl rfl) rfl rfl ?_
    refine XR_a (op_ld (st.cell 2 (i := 1) rfl rfl) rfl rfl rfl) rfl rfl ?_
    first | refine XR_a (op_field0 rfl rfl) rfl rfl ?_ | refine XR_a (op_fieldn rfl rfl) rfl rfl ?_
    refine XR_a (op_ld (st.cell 2 (i := 2) rfl rfl) rfl rfl rfl) rfl rfl ?_
    refine XR_a (op_move rfl) rfl rfl ?_
    refine XR_wa (opl_call (rwhole_spec (gB := gB) (gE := gE) st.here (fun h' hh => hr.ext (st.low.trans hh)) hl (by omega) hmc hstep hG) rfl (by kernel_rfl)) rfl rfl rfl ?_
    rintro _ hp2 ⟨w1, rfl, st2⟩
    replace st := st.trans st2
    clear st2
    obtain ⟨A1, n1, c1, rfl, hl1, _, _, hrd1⟩ := st.row 0 rfl
    obtain ⟨N, hN⟩ : ∃ N, newE mt l size = N := ⟨_, rfl⟩
    rw [hN] at st hl1 hrd1 hG hgn ⊢
    obtain ⟨W, hW⟩ : ∃ W, wholeG N gB gE step = W := ⟨_, rfl⟩
    rw [hW] at st hl1 hrd1 ⊢
    unfold wholeG at hW
    rw [List.length_map, Nat.mul_one] at hl1
    refine XR_a (op_move rfl) rfl rfl ?_
    refine XR_a (op_extract rfl rfl) rfl rfl ?_
    refine XR_a (op_extract rfl rfl) rfl rfl ?_
    refine XR_a (op_assign rfl) rfl rfl ?_
    refine XR_a (op_assign rfl) rfl rfl ?_
    refine XR_nil ?_
    refine X_seq ?_
    refine X_reg ?_
    first | refine XR_a (op_field0 rfl rfl) rfl rfl ?_ | refine XR_a (op_fieldn rfl rfl) rfl rfl ?_
    refine XR_a (op_ld (st.cell 1 (i := 0) rfl rfl) rfl rfl rfl) rfl rfl ?_
    refine XR_a (op_assign rfl) rfl rfl ?_
    refine XR_nil ?_
    refine X_seq ?_
    refine X_seq ?_
    refine X_reg ?_
    refine XR_a (op_move rfl) rfl rfl ?_
    refine XR_a (op_eql rfl rfl) rfl rfl ?_
    refine XR_nil ?_
    refine X_if rfl (fun h => ?_) (fun h => ?_)
    · refine X_reg ?_
      first | refine XR_a (op_field0 rfl rfl) rfl rfl ?_ | refine XR_a (op_fieldn rfl rfl) rfl rfl ?_
      refine XR_a (op_ld (st.cell 1 (i := 2) rfl rfl) rfl rfl rfl) rfl rfl ?_
      refine XR_a (op_assign rfl) rfl rfl ?_
      refine XR_nil ?_
      refine X_seq ?_
      refine X_seq ?_
      refine X_reg ?_
      refine XR_a (op_move rfl) rfl rfl ?_
      refine XR_a (op_lss rfl rfl) rfl rfl ?_
      refine XR_nil ?_
      refine X_if rfl (fun h => ?_) (fun h => ?_)
      · refine X_reg ?_
        refine XR_a (op_assign rfl) rfl rfl ?_
        refine XR_nil ?_
        refine X_seq ?_
        refine X_seq ?_
        refine X_reg ?_
        refine XR_a (op_move rfl) rfl rfl ?_
        refine XR_a (op_neq rfl rfl) rfl rfl ?_
        refine XR_nil ?_
        refine X_if rfl (fun h => ?_) (fun h => ?_)
        · rw [if_pos (by omega)] at hW
          subst hW
          refine X_seq ?_
          refine X_reg ?_
          refine XR_a (op_move rfl) rfl rfl ?_
          refine XR_a (op_move rfl) rfl rfl ?_
          refine XR_a (op_eql rfl rfl) rfl rfl ?_
          refine XR_as (.bool true) (congrArg Value.bool (decide_eq_true rfl)) ?_
          refine XR_a (op_move rfl) rfl rfl ?_
          refine XR_a (op_move rfl) rfl rfl ?_
          refine XR_a (op_len rfl rfl rfl) rfl rfl ?_
          refine XR_a (op_eql rfl rfl) rfl rfl ?_
          refine XR_as (.bool true) (congrArg Value.bool (decide_eq_true (by have : n1 = 0 := by rw [← hl1]; rfl
                                                                             omega))) ?_
          refine XR_a (op_pick_t rfl rfl) rfl rfl ?_
          refine XR_a (op_move rfl) rfl rfl ?_
          refine XR_wa (opl_call (lives36 _) rfl (by kernel_rfl)) rfl rfl rfl ?_
          rintro _ hp ⟨rfl, hx⟩
          refine XR_a (op_pick_t rfl rfl) rfl rfl ?_
          refine XR_a (op_assign rfl) rfl rfl ?_
          refine XR_nil ?_
          refine X_ret (.cons (.tmp rfl) .nil) ?_
          exact ⟨rfl, Ext.trans st.low hx⟩
        · exfalso; omega
      · refine X_skip ?_
        refine X_seq ?_
        refine X_seq ?_
        refine X_reg ?_
        refine XR_a (op_move rfl) rfl rfl ?_
        refine XR_a (op_neq rfl rfl) rfl rfl ?_
        refine XR_nil ?_
        refine X_if rfl (fun h => ?_) (fun h => ?_)
        · rw [if_neg (by omega), if_neg (by omega), if_pos (by omega)] at hW
          subst hW
          refine X_seq ?_
          refine X_reg ?_
          refine XR_a (op_move rfl) rfl rfl ?_
          refine XR_a (op_move rfl) rfl rfl ?_
          refine XR_a (op_eql rfl rfl) rfl rfl ?_
          refine XR_as (.bool true) (congrArg Value.bool (decide_eq_true rfl)) ?_
          refine XR_a (op_move rfl) rfl rfl ?_
          refine XR_a (op_move rfl) rfl rfl ?_
          refine XR_a (op_len rfl rfl rfl) rfl rfl ?_
          refine XR_a (op_eql rfl rfl) rfl rfl ?_
          refine XR_as (.bool true) (congrArg Value.bool (decide_eq_true (by have : n1 = 0 := by rw [← hl1]; rfl
                                                                             omega))) ?_
          refine XR_a (op_pick_t rfl rfl) rfl rfl ?_
          refine XR_a (op_move rfl) rfl rfl ?_
          refine XR_wa (opl_call (lives36 _) rfl (by kernel_rfl)) rfl rfl rfl ?_
          rintro _ hp ⟨rfl, hx⟩
          refine XR_a (op_pick_t rfl rfl) rfl rfl ?_
          refine XR_a (op_assign rfl) rfl rfl ?_
          refine XR_nil ?_
          refine X_ret (.cons (.tmp rfl) .nil) ?_
          exact ⟨rfl, Ext.trans st.low hx⟩
        · rw [if_neg (by omega), if_neg (by omega), if_neg (by omega)] at hW
          subst hW
          obtain ⟨Ag, ng, cg, rfl, hgl, hgc, hrg⟩ := st.gRes 2 rfl st.low
          refine X_skip ?_
          refine X_seq ?_
          refine X_reg ?_
          refine XR_a (op_move rfl) rfl rfl ?_
          refine XR_a (op_eql rfl rfl) rfl rfl ?_
          refine XR_as (.bool true) (congrArg Value.bool (decide_eq_true rfl)) ?_
          refine XR_a (op_move rfl) rfl rfl ?_
          refine XR_a (op_move rfl) rfl rfl ?_
          refine XR_a (op_str (l := gB) hrd1 rfl hl1 rfl rfl rfl) rfl rfl ?_
          first | refine XR_a (op_field0 rfl rfl) rfl rfl ?_ | refine XR_a (op_fieldn rfl rfl) rfl rfl ?_
          refine XR_a (op_ld (st.cell 1 (i := 1) rfl rfl) rfl rfl rfl) rfl rfl ?_
          refine XR_a (op_str (l := gB) hrg rfl hgl rfl rfl rfl) rfl rfl ?_
          refine XR_a (op_eqlS rfl rfl) rfl rfl ?_
          refine XR_as (.bool true) (congrArg Value.bool (decide_eq_true rfl)) ?_
          refine XR_a (op_pick_t rfl rfl) rfl rfl ?_
          refine XR_a (op_move rfl) rfl rfl ?_
          refine XR_wa (opl_call (lives36 _) rfl (by kernel_rfl)) rfl rfl rfl ?_
          rintro _ hp ⟨rfl, hx⟩
          refine XR_a (op_pick_t rfl rfl) rfl rfl ?_
          refine XR_a (op_assign rfl) rfl rfl ?_
          refine XR_nil ?_
          refine X_ret (.cons (.tmp rfl) .nil) ?_
          exact ⟨rfl, Ext.trans st.low hx⟩
    · refine X_skip ?_
      refine X_seq ?_
      refine X_seq ?_
      refine X_reg ?_
      refine XR_a (op_move rfl) rfl rfl ?_
      refine XR_a (op_lss rfl rfl) rfl rfl ?_
      refine XR_nil ?_
      refine X_if rfl (fun h => ?_) (fun h => ?_)
      · refine X_reg ?_
        refine XR_a (op_assign rfl) rfl rfl ?_
        refine XR_nil ?_
        refine X_seq ?_
        refine X_seq ?_
        refine X_reg ?_
        refine XR_a (op_move rfl) rfl rfl ?_
        refine XR_a (op_neq rfl rfl) rfl rfl ?_
        refine XR_nil ?_
        refine X_if rfl (fun h => ?_) (fun h => ?_)
        · rw [if_pos (by omega)] at hW
          subst hW
          refine X_seq ?_
          refine X_reg ?_
          refine XR_a (op_move rfl) rfl rfl ?_
          refine XR_a (op_move rfl) rfl rfl ?_
          refine XR_a (op_eql rfl rfl) rfl rfl ?_
          refine XR_as (.bool true) (congrArg Value.bool (decide_eq_true rfl)) ?_
          refine XR_a (op_move rfl) rfl rfl ?_
          refine XR_a (op_move rfl) rfl rfl ?_
          refine XR_a (op_len rfl rfl rfl) rfl rfl ?_
          refine XR_a (op_eql rfl rfl) rfl rfl ?_
          refine XR_as (.bool true) (congrArg Value.bool (decide_eq_true (by have : n1 = 0 := by rw [← hl1]; rfl
                                                                             omega))) ?_
          refine XR_a (op_pick_t rfl rfl) rfl rfl ?_
          refine XR_a (op_move rfl) rfl rfl ?_
          refine XR_wa (opl_call (lives36 _) rfl (by kernel_rfl)) rfl rfl rfl ?_
          rintro _ hp ⟨rfl, hx⟩
          refine XR_a (op_pick_t rfl rfl) rfl rfl ?_
          refine XR_a (op_assign rfl) rfl rfl ?_
          refine XR_nil ?_
          refine X_ret (.cons (.tmp rfl) .nil) ?_
          exact ⟨rfl, Ext.trans st.low hx⟩
        · exfalso; omega
      · refine X_skip ?_
        refine X_seq ?_
        refine X_seq ?_
        refine X_reg ?_
        refine XR_a (op_move rfl) rfl rfl ?_
        refine XR_a (op_neq rfl rfl) rfl rfl ?_
        refine XR_nil ?_
        refine X_if rfl (fun h => ?_) (fun h => ?_)
        · rw [if_neg (by omega), if_pos (by omega)] at hW
          subst hW
          refine X_seq ?_
          refine X_reg ?_
          refine XR_a (op_move rfl) rfl rfl ?_
          refine XR_a (op_move rfl) rfl rfl ?_
          refine XR_a (op_eql rfl rfl) rfl rfl ?_
          refine XR_as (.bool true) (congrArg Value.bool (decide_eq_true rfl)) ?_
          refine XR_a (op_move rfl) rfl rfl ?_
          refine XR_a (op_move rfl) rfl rfl ?_
          refine XR_a (op_len rfl rfl rfl) rfl rfl ?_
          refine XR_a (op_eql rfl rfl) rfl rfl ?_
          refine XR_as (.bool true) (congrArg Value.bool (decide_eq_true (by have : n1 = 0 := by rw [← hl1]; rfl
                                                                             omega))) ?_
          refine XR_a (op_pick_t rfl rfl) rfl rfl ?_
          refine XR_a (op_move rfl) rfl rfl ?_
          refine XR_wa (opl_call (lives36 _) rfl (by kernel_rfl)) rfl rfl rfl ?_
          rintro _ hp ⟨rfl, hx⟩
          refine XR_a (op_pick_t rfl rfl) rfl rfl ?_
          refine XR_a (op_assign rfl) rfl rfl ?_
          refine XR_nil ?_
          refine X_ret (.cons (.tmp rfl) .nil) ?_
          exact ⟨rfl, Ext.trans st.low hx⟩
        · exfalso; omega
end Go.Bn
end

section
set_option linter.unusedVariables false
namespace Go.Proofs.Ytedkglaoablgaaa.readerWholes
open Go.ChangeShapes Go.WideShapes Go.ChangeAt Go.RowKit Go.Bn
open Go.ChangeMaps (open_string shut_string)
theorem own : ownKnob Try.prog.godebug = none := by kernel_rfl
theorem laidOut : laidOutB Try.prog = true := by kernel_rfl
set_option maxRecDepth 100000 in
set_option maxHeartbeats 4000000 in
theorem lifted (os : Os) (started : os.Started) (H : Type) (enc : TypeId × Value → H) :
    ReturnsInHanded {} Try.checked os 5 .any (Rows.readerWholesSpec.pre6 enc Try.prog Try.f5 Rows.readerWholesRow.domain false) (Rows.readerWholesSpec.post enc Try.prog Try.f5 false true false false) := by
  refine returnsInHanded_of_change_sized (C := Try.checked) own started (by kernel_rfl) Try.func5
    (ChangeSpec.witness6 (enc := enc) (C := Try.checked) false ⟨#[], #[.agg #[.int .i64 0, .slice none 0 0, .int .i64 0], .int .i64 0], []⟩ 8 (by kernel_rfl) (by kernel_rfl) (by kernel_rfl) (by kernel_rfl)) ?_
  intro W base args ds gs before hval0 hW hcnd hsz0 _
  have hsz : (DataW.weightsEach Try.prog (Try.f5.params.toList ++ Rows.readerWholesSpec.plain.varTypes Try.prog) (ds ++ gs)).all (· ≤ reachBytes) = true := hsz0
  have hval : ∀ (j : Nat) t v, Try.f5.params[j]? = some t → args[j]? = some v → Value.okWide Try.prog W .any base t v := hval0
  have hW' := hW
  obtain ⟨p, q, hA0, hV, rfl, hfz, hnd⟩ := hW
  have hA : DataW.TrodAll enc Try.prog W 0 (fun _ => true) true Try.f5.params.toList args.toList ds p := hA0
  rw [Try.params5] at hA hval hsz
  obtain ⟨v0, vs0, d0, ds0, p0, q0, hargs, rfl, rfl, h0, r0⟩ := trodAll_cons hA
  obtain ⟨v1, vs1, d1, ds1, p1, q1, rfl, rfl, rfl, h1, r1⟩ := trodAll_cons r0
  obtain ⟨rfl, rfl, rfl⟩ := trodAll_nil r1
  obtain rfl : args = #[v0, v1] := by cases args; simp_all
  obtain ⟨rfl, rfl⟩ := trodVars_none hV
  have k0 := h0
  have lt0 : ∀ x ∈ p0, x.block < W.heap.size := by obtain ⟨m, hm⟩ := k0; exact DataW.trod_lt m _ _ _ hm
  obtain ⟨cs0, rfl, ok0⟩ := arg_agg (ks := [.i .i64, .sl [.i .u8], .i .i64]) 9 Try.underlying24 (by kernel_rfl) (by kernel_rfl) (hval 0 24 v0 rfl rfl) h0
  obtain ⟨u0_0, rr0_0, ee0, s0_0, o0_0⟩ := all2_cons ok0
  obtain ⟨bx_0_0, rfl, in_0_0⟩ := okS_i s0_0
  obtain ⟨u0_1, rr0_1, rfl, s0_1, o0_1⟩ := all2_cons o0_0
  obtain ⟨A_0_1, n_0_1, c_0_1, l_0_1, rfl, hc_0_1, hm_0_1, hl_0_1, r_0_1⟩ := okS_bytes s0_1
  obtain ⟨u0_2, rr0_2, rfl, s0_2, o0_2⟩ := all2_cons o0_1
  obtain ⟨bx_0_2, rfl, in_0_2⟩ := okS_i s0_2
  obtain rfl := all2_nil o0_2
  obtain rfl : cs0 = #[.int .i64 bx_0_0, .slice A_0_1 n_0_1 c_0_1, .int .i64 bx_0_2] := Array.ext' ee0
  obtain ⟨x_0_0, rfl⟩ : ∃ x : Int, x = bx_0_0 := ⟨_, rfl⟩
  obtain ⟨x_0_2, rfl⟩ : ∃ x : Int, x = bx_0_2 := ⟨_, rfl⟩
  obtain ⟨a1, rfl, rfl, rfl, w1⟩ := open_int Try.underlying3 (hval 1 3 v1 rfl rfl) h1
  have in_1 := wf_in w1
  obtain ⟨x_1, rfl⟩ : ∃ x : Int, x = a1 := ⟨_, rfl⟩
  clear hA0 hval0 hsz0 hsz
  refine ((readerWholes_ret r_0_1 hl_0_1 (by omega) in_1) W rfl).mono fun e W' ⟨v, he, hi, hv, hx⟩ => ?_
  subst he
  subst hv
  have bel : Below W.heap.size W W' := Low.below hi hx
  exact ⟨_, rfl, _, _, _, [], _, [], hW', trodAll_mk1 (shut_bool Try.underlying4 _), (trodAll_cons_mk (Below.trod laidOut (by kernel_rfl) (of_decide_eq_true (by kernel_rfl)) k0 bel lt0) (trodAll_cons_mk (shut_int Try.underlying3 w1) trodAll_mk0)), rfl, bel.frame _, fun h => by cases h⟩
theorem over : Rows.readerWholesRow.holds Try.pinned (OpenSpec.ofChange Rows.readerWholesSpec) :=
  OpenClaim.holds_of_wide 5 Try.f5 rfl rfl rfl rfl rfl rfl rfl ⟨rfl, rfl, rfl, rfl, rfl⟩ rfl rfl rfl rfl rfl (by kernel_rfl) Try.func5 (by kernel_rfl)
    (of_decide_eq_true (by kernel_rfl)) (by unfold Func.isWrapper; first | (rw [if_pos (by decide +kernel)]; kernel_rfl) | (rw [if_neg (by decide +kernel)]; exact ⟨rfl, rfl⟩))
    (fun os started H enc _ => lifted os started H enc)
end Go.Proofs.Ytedkglaoablgaaa.readerWholes
namespace Go.Proofs.Ytedkglaoablgaaa
theorem readerWholes_holds : Rows.ReaderWholesSaid := readerWholes.over
end Go.Proofs.Ytedkglaoablgaaa
end
